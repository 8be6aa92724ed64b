/- Part of a machine of its own for this claim: the program's code over memory without draws. -/
import Derived.Test.YtoamlagpnnmnhabAmXWalScan2
set_option linter.unusedVariables false
set_option linter.unusedSimpArgs false
set_option linter.unnecessarySimpa false
set_option linter.unusedVariables false
set_option linter.unusedSimpArgs false
set_option linter.unnecessarySimpa false
namespace Go.AM
open Go Go.Proofs
theorem ref17_Decode_spec (H : Heap) (bA : Option Addr) (b : List Int) (bc : Nat) (hb : Row H bA bc 1 (b.map u8c)) (cb : b.length ≤ bc) (lb : b.length ≤ 1099511627776) (bb : Spec.Bytes b) : ∃ v H', Spec Try.prog 22 [.slice bA b.length bc] H v H' ∧ ((v = .tuple #[.agg #[.bool ((Spec.decF b).1), .int .i64 ((Spec.decF b).2.1), .int .i64 ((Spec.decF b).2.2.1), .int .i64 ((Spec.decF b).2.2.2.1), .int .i64 ((Spec.decF b).2.2.2.2.1), .int .i64 ((Spec.decF b).2.2.2.2.2.1), .string ((Spec.decF b).2.2.2.2.2.2.1)], .int .i64 ((Spec.decF b).2.2.2.2.2.2.2.1), .int .i64 ((Spec.decF b).2.2.2.2.2.2.2.2)]) ∧ ((Spec.decF b).2.2.2.2.2.2.2.2 = 0 → Spec.mayF (Spec.decF b).1 (Spec.decF b).2.1 (Spec.decF b).2.2.1 (Spec.decF b).2.2.2.1 (Spec.decF b).2.2.2.2.1 (Spec.decF b).2.2.2.2.2.1 (Spec.decF b).2.2.2.2.2.2.1 = true ∧ 6 ≤ (Spec.decF b).2.2.2.2.2.2.2.1 ∧ (Spec.decF b).2.2.2.2.2.2.2.1 ≤ b.length ∧ (Spec.decF b).2.2.2.2.2.2.2.1 ≤ 4020) ∧ (0 ≤ (Spec.decF b).2.2.2.2.2.2.2.2 ∧ (Spec.decF b).2.2.2.2.2.2.2.2 ≤ 3) ∧ ((Spec.decF b).2.2.2.2.2.2.2.2 ≠ 0 → (Spec.decF b).2.2.2.2.2.2.2.1 = 0 ∧ (Spec.decF b) = (false, 0, 0, 0, 0, 0, (⟨#[]⟩ : ByteArray), 0, (Spec.decF b).2.2.2.2.2.2.2.2)) ∧ (Ext H H')) := by
  refine spec_go1 E0_ok 124 (f := 22) Try.func22 rfl rfl rfl ?_
  refine aw_seq ?_
  refine aw_reg ?_
  obtain ⟨b1, H2, he3, b1e, H2n_, hB5, f4⟩ := mem_alloc H zero27
  refine st_op (he3 _ _ _ _ _ _ _) rfl rfl rfl ?_
  have hx6 : Ext H H2 := Ext.new (by omega) H2n_ f4
  have H2n : H.next ≤ H2.next := hx6.1
  refine st_op (ev_assign rfl) rfl rfl rfl ?_
  refine st_op (ev_assign rfl) rfl rfl rfl ?_
  try show aw _ _ _ _ _ _
  refine aw_seq ?_
  refine aw_reg ?_
  refine st_op (ev_move rfl) rfl rfl rfl ?_
  refine st_call rfl rfl rfl ent42 rfl rfl rfl ?_
  have h7 := Row.ext hb hx6
  obtain ⟨_, H9, hs8, A11, c12, hs8v, hm13, hk18, hq14, hq15, hq16, hq17, hx10⟩ := ref1_Open_spec H2 bA b bc h7 cb (by first | omega | (simp only [List.length_append, List.length_cons, List.length_nil, List.length_map, List.length_set, List.length_replicate, Spec.bytesOf_length]; omega) | (simp; omega)) (by first | assumption | exact Spec.Bytes.nil | exact Spec.bytes_of _ | (repeat' first | assumption | exact Spec.Bytes.nil | exact Spec.bytes_of _ | exact Spec.enc_bytes _ | exact Spec.four_bytes _ | exact Spec.sealF_bytes (by assumption) | apply Spec.Bytes.append | apply Spec.Bytes.cons (by omega) | apply Spec.Bytes.take | apply Spec.Bytes.drop))
  rw [hs8v] at hs8; clear hs8v
  generalize hR20 : (Spec.openF b) = r19 at hs8 hm13 hk18 hq14 hq15 hq16 hq17
  obtain ⟨z21, z22, z23, z24⟩ := r19
  dsimp only at hs8 hm13 hk18 hq14 hq15 hq16 hq17
  refine ⟨_, H9, hs8, ?_⟩
  have H9n : H2.next ≤ H9.next := hx10.1
  refine st_op (ev_move rfl) rfl rfl rfl ?_
  refine st_op (ev_extract rfl rfl) rfl rfl rfl ?_
  refine st_op (ev_extract rfl rfl) rfl rfl rfl ?_
  refine st_op (ev_extract rfl rfl) rfl rfl rfl ?_
  refine st_op (ev_extract rfl rfl) rfl rfl rfl ?_
  refine st_op (ev_assign rfl) rfl rfl rfl ?_
  refine st_op (ev_assign rfl) rfl rfl rfl ?_
  refine st_op (ev_assign rfl) rfl rfl rfl ?_
  refine st_op (ev_assign rfl) rfl rfl rfl ?_
  try show aw _ _ _ _ _ _
  refine aw_seq ?_
  refine aw_seq ?_
  refine aw_reg ?_
  refine st_op (ev_move rfl) rfl rfl rfl ?_
  refine st_op (ev_int rfl rfl rfl) rfl rfl rfl ?_
  try show aw _ _ _ _ _ _
  by_cases hc25 : (z24 != 0) = true
  · refine aw_condT hc25 rfl ?_
    try show aw _ _ _ _ _ _
    have hc25 : ¬ (z24 = 0) := by simpa using hc25
    refine aw_seq ?_
    refine aw_reg ?_
    refine st_op (ev_build zero27 pl27 (parts := []) rfl (cs := [.bool false, .int .i64 0, .int .i64 0, .int .i64 0, .int .i64 0, .int .i64 0, .string (⟨#[]⟩)]) rfl) rfl rfl rfl ?_
    refine st_op (ev_move rfl) rfl rfl rfl ?_
    have h26 := Ext.blk hx10 (by omega) hB5
    obtain ⟨H27, he28, H27n_, hB29, f30⟩ := mem_store (v := .agg #[.bool false, .int .i64 0, .int .i64 0, .int .i64 0, .int .i64 0, .int .i64 0, .string (⟨#[]⟩)]) (o := 0) (cs' := [.bool false, .int .i64 0, .int .i64 0, .int .i64 0, .int .i64 0, .int .i64 0, .string (⟨#[]⟩)]) 7 rfl rfl size27 h26 rfl rfl rfl
    refine st_op0 (he28 _ _ _ _ _ _ _ _ _ rfl rfl) rfl rfl ?_
    have hf31 : Fr (fun q => q = b1) H9 H27 := Fr.write H27n_ f30
    have H27n : H9.next ≤ H27.next := hf31.1
    refine st_op (ev_assign rfl) rfl rfl rfl ?_
    refine st_op (ev_assign rfl) rfl rfl rfl ?_
    try show aw _ _ _ _ _ _
    refine aw_ret ?_
    have hx32 : Ext H H27 := (Ext.then (Ext.trans hx6 hx10) hf31 (fun q hq e => by omega))
    have hres : (Spec.decF b) = (false, 0, 0, 0, 0, 0, (⟨#[]⟩ : ByteArray), 0, z24) := by first | exact Spec.dec_err hR20 (by omega) | exact Spec.dec_kind hR20 (by omega) (by omega) (by omega)
    exact ⟨.tuple #[.agg #[.bool false, .int .i64 0, .int .i64 0, .int .i64 0, .int .i64 0, .int .i64 0, .string (⟨#[]⟩)], .int .i64 0, .int .i64 z24], (resA_of (resL_cell rfl (lvar_part (l := [.bool false, .int .i64 0, .int .i64 0, .int .i64 0, .int .i64 0, .int .i64 0, .string (⟨#[]⟩)]) many27 hB29 rfl rfl (by decide)) (resL_tmp rfl (resL_tmp rfl resL_nil))) rfl), by rw [hres], (by exact (Spec.decF_all bb).1), (by exact (Spec.decF_all bb).2.1), (by exact (Spec.decF_all bb).2.2), hx32⟩
  · rw [Bool.not_eq_true] at hc25; refine aw_condF hc25 rfl ?_
    try show aw _ _ _ _ _ _
    have hc25 : (z24 = 0) := by simpa using hc25
    refine aw_skip ?_
    try show aw _ _ _ _ _ _
    refine aw_seq ?_
    refine aw_reg ?_
    obtain ⟨b33, H34, he35, b33e, H34n_, hB37, f36⟩ := mem_alloc H9 zero27
    refine st_op (he35 _ _ _ _ _ _ _) rfl rfl rfl ?_
    have hx38 : Ext H9 H34 := Ext.new (by omega) H34n_ f36
    have H34n : H9.next ≤ H34.next := hx38.1
    try show aw _ _ _ _ _ _
    refine aw_seq ?_
    refine aw_seq ?_
    refine aw_reg ?_
    refine st_op (ev_move rfl) rfl rfl rfl ?_
    try show aw _ _ _ _ _ _
    refine aw_block ?_
    refine aw_seq ?_
    refine aw_reg ?_
    refine st_op (ev_int rfl rfl rfl) rfl rfl rfl ?_
    refine st_op (ev_assign rfl) rfl rfl rfl ?_
    try show aw _ _ _ _ _ _
    by_cases hc39 : (z21 == 1) = true
    · refine aw_condT hc39 rfl ?_
      try show aw _ _ _ _ _ _
      have hc39 := eq_of_beq hc39
      refine aw_seq ?_
      refine aw_reg ?_
      refine st_op (ev_move rfl) rfl rfl rfl ?_
      refine st_call rfl rfl rfl ent43 rfl rfl rfl ?_
      have h40 := Row.ext hm13 hx38
      obtain ⟨_, H42, hs41, A44, c45, A47, c48, hs41v, hm46, hm49, hk54, hq50, hq51, hq52, hq53, hx43⟩ := ref17_numbers_spec H34 A11 z22 c12 h40 hk18 (by first | omega | (simp only [List.length_append, List.length_cons, List.length_nil, List.length_map, List.length_set, List.length_replicate, Spec.bytesOf_length]; omega) | (simp; omega)) (by first | assumption | exact Spec.Bytes.nil | exact Spec.bytes_of _ | (repeat' first | assumption | exact Spec.Bytes.nil | exact Spec.bytes_of _ | exact Spec.enc_bytes _ | exact Spec.four_bytes _ | exact Spec.sealF_bytes (by assumption) | apply Spec.Bytes.append | apply Spec.Bytes.cons (by omega) | apply Spec.Bytes.take | apply Spec.Bytes.drop)) 2 (by decide)
      rw [hs41v] at hs41; clear hs41v
      generalize hR56 : (Spec.numsF (2 : Int).toNat z22 []) = r55 at hs41 hm46 hm49 hk54 hq50 hq51 hq52 hq53
      obtain ⟨z57, z58, z59⟩ := r55
      dsimp only at hs41 hm46 hm49 hk54 hq50 hq51 hq52 hq53
      refine ⟨_, H42, hs41, ?_⟩
      have H42n : H34.next ≤ H42.next := hx43.1
      refine st_op (ev_move rfl) rfl rfl rfl ?_
      refine st_op (ev_extract rfl rfl) rfl rfl rfl ?_
      refine st_op (ev_extract rfl rfl) rfl rfl rfl ?_
      refine st_op (ev_extract rfl rfl) rfl rfl rfl ?_
      refine st_op (ev_assign rfl) rfl rfl rfl ?_
      refine st_op (ev_assign rfl) rfl rfl rfl ?_
      refine st_op (ev_assign rfl) rfl rfl rfl ?_
      try show aw _ _ _ _ _ _
      refine aw_seq ?_
      refine aw_reg ?_
      refine st_op (ev_move rfl) rfl rfl rfl ?_
      refine st_op (ev_move rfl) rfl rfl rfl ?_
      refine st_bool 40 rfl (fun hb60 => ?_) (fun hb60 => ?_)
      ·
        have hb60l := hq53 hb60
        refine st_op (ev_move rfl) rfl rfl rfl ?_
        refine st_op (ev_lenSl rfl Try.underlying30) rfl rfl rfl ?_
        refine st_op (ev_int rfl rfl rfl) rfl rfl rfl ?_
        refine st_op (ev_pickT rfl rfl) rfl rfl rfl ?_
        refine st_op (ev_move rfl) rfl rfl rfl ?_
        refine st_bool 45 rfl (fun hb61 => ?_) (fun hb61 => ?_)
        ·
          have hb61 := eq_of_beq hb61
          refine st_op (ev_move rfl) rfl rfl rfl ?_
          have hi62 : 0 ≤ (1 : Int) := by omega
          have hi63 : (1 : Int) < ((z57.length : Nat) : Int) := by first | omega | (simp only [List.length_append, List.length_cons, List.length_nil, List.length_map, List.length_set, List.length_replicate, Spec.bytesOf_length]; omega) | (simp; omega)
          obtain ⟨x64, hx65⟩ : ∃ e, z57[1]? = some e := ⟨_, List.getElem?_eq_getElem (by first | omega | (simp only [List.length_append, List.length_cons, List.length_nil, List.length_map, List.length_set, List.length_replicate, Spec.bytesOf_length]; omega) | (simp; omega))⟩
          refine st_op (ev_at rfl rfl (My.row hm46) (getMap i64c hx65) (by first | rfl | omega | simp) hi62 hi63 el81) rfl rfl rfl ?_
          refine st_op (ev_atL rfl (My.row hm46) (getMap i64c hx65) one2 rfl) rfl rfl rfl ?_
          refine st_op (ev_int rfl rfl rfl) rfl rfl rfl ?_
          refine st_op (ev_pickT rfl rfl) rfl rfl rfl ?_
          refine st_op (ev_move rfl) rfl rfl rfl ?_
          refine st_bool 51 rfl (fun hb66 => ?_) (fun hb66 => ?_)
          ·
            have hb66 := of_decide_eq_true hb66
            refine st_op (ev_move rfl) rfl rfl rfl ?_
            have hi67 : 0 ≤ (1 : Int) := by omega
            have hi68 : (1 : Int) < ((z57.length : Nat) : Int) := by first | omega | (simp only [List.length_append, List.length_cons, List.length_nil, List.length_map, List.length_set, List.length_replicate, Spec.bytesOf_length]; omega) | (simp; omega)
            refine st_op (ev_at rfl rfl (My.row hm46) (getMap i64c hx65) (by first | rfl | omega | simp) hi67 hi68 el81) rfl rfl rfl ?_
            refine st_op (ev_atL rfl (My.row hm46) (getMap i64c hx65) one2 rfl) rfl rfl rfl ?_
            refine st_op (ev_int rfl rfl rfl) rfl rfl rfl ?_
            refine st_op (ev_pickT rfl rfl) rfl rfl rfl ?_
            try show aw _ _ _ _ _ _
            by_cases hc69 : (decide (x64 ≤ 7)) = true
            · refine aw_condT hc69 rfl ?_
              try show aw _ _ _ _ _ _
              have hc69 := of_decide_eq_true hc69
              refine aw_marks (fun b => b < H42.next) [(false, false), (false, false), (false, false), (false, false), (false, false), (false, false), (false, false), (false, false), (false, false)] mixed (by kernel_rfl) (by kernel_rfl) ?_
              refine sm_op (ev_move rfl) rfl rfl rfl ?_
              have hi70 : 0 ≤ (0 : Int) := by omega
              have hi71 : (0 : Int) < ((z57.length : Nat) : Int) := by first | omega | (simp only [List.length_append, List.length_cons, List.length_nil, List.length_map, List.length_set, List.length_replicate, Spec.bytesOf_length]; omega) | (simp; omega)
              obtain ⟨x72, hx73⟩ : ∃ e, z57[0]? = some e := ⟨_, List.getElem?_eq_getElem (by first | omega | (simp only [List.length_append, List.length_cons, List.length_nil, List.length_map, List.length_set, List.length_replicate, Spec.bytesOf_length]; omega) | (simp; omega))⟩
              refine sm_op (ev_at rfl rfl (My.row hm46) (getMap i64c hx73) (by first | rfl | omega | simp) hi70 hi71 el81) rfl rfl rfl ?_
              refine sm_op (ev_atL rfl (My.row hm46) (getMap i64c hx73) one2 rfl) rfl rfl rfl ?_
              refine sm_op (ev_move rfl) rfl rfl rfl ?_
              have hi74 : 0 ≤ (1 : Int) := by omega
              have hi75 : (1 : Int) < ((z57.length : Nat) : Int) := by first | omega | (simp only [List.length_append, List.length_cons, List.length_nil, List.length_map, List.length_set, List.length_replicate, Spec.bytesOf_length]; omega) | (simp; omega)
              refine sm_op (ev_at rfl rfl (My.row hm46) (getMap i64c hx65) (by first | rfl | omega | simp) hi74 hi75 el81) rfl rfl rfl ?_
              refine sm_op (ev_atL rfl (My.row hm46) (getMap i64c hx65) one2 rfl) rfl rfl rfl ?_
              refine sm_op (ev_build zero23 pl23 (parts := [(0, .int .i64 x72), (1, .int .i64 x64)]) rfl (cs := [.int .i64 x72, .int .i64 x64]) rfl) rfl rfl rfl ?_
              refine sm_op (ev_build zero27 pl27 (parts := [(0, .bool true), (1, .agg #[.int .i64 x72, .int .i64 x64])]) rfl (cs := [.bool true, .int .i64 x72, .int .i64 x64, .int .i64 0, .int .i64 0, .int .i64 0, .string (⟨#[]⟩)]) rfl) rfl rfl rfl ?_
              have h76 := Ext.blk hx43 (by omega) hB37
              obtain ⟨H77, he78, H77n_, hB79, f80⟩ := mem_store (v := .agg #[.bool true, .int .i64 x72, .int .i64 x64, .int .i64 0, .int .i64 0, .int .i64 0, .string (⟨#[]⟩)]) (o := 0) (cs' := [.bool true, .int .i64 x72, .int .i64 x64, .int .i64 0, .int .i64 0, .int .i64 0, .string (⟨#[]⟩)]) 7 rfl rfl size27 h76 rfl rfl rfl
              refine sm_op0 (he78 _ _ _ _ _ _ _ _ _ rfl rfl) rfl rfl ?_
              have hf81 : Fr (fun q => q = b33) H42 H77 := Fr.write H77n_ f80
              have H77n : H42.next ≤ H77.next := hf81.1
              try show aw _ _ _ _ _ _
              refine aw_seq ?_
              refine aw_seq ?_
              refine aw_marks (fun b => b < H77.next) [(false, false), (false, false), (false, false), (false, false), (false, false), (false, true), (false, false), (false, false), (false, false), (true, false), (true, false), (false, false), (false, false)] mixed (by kernel_rfl) (by kernel_rfl) ?_
              refine sm_op (ev_load rfl (lvar_part (l := [.bool true, .int .i64 x72, .int .i64 x64, .int .i64 0, .int .i64 0, .int .i64 0, .string (⟨#[]⟩)]) many27 hB79 rfl rfl (by decide))) rfl rfl rfl ?_
              refine sm_call rfl rfl rfl ent13 rfl rfl rfl ?_
              obtain ⟨_, H83, hs82, hs82v, hx84⟩ := ref17_May_spec H77 true x72 x64 (0 : Int) (0 : Int) (0 : Int) (⟨#[]⟩ : ByteArray)
              rw [hs82v] at hs82; clear hs82v
              refine ⟨_, H83, hs82, (fun _ b hb => hx84.2 b (by omega)), ?_⟩
              have H83n : H77.next ≤ H83.next := hx84.1
              refine sm_op (ev_not rfl) rfl rfl rfl ?_
              refine sm_op (ev_move rfl) rfl rfl rfl ?_
              refine sm_bool 111 rfl (fun hb85 => ?_) (fun hb85 => ?_)
              ·
                replace hb85 : (Spec.mayF true x72 x64 (0 : Int) (0 : Int) (0 : Int) (⟨#[]⟩ : ByteArray)) = false := by rw [Bool.not_eq_true'] at hb85; exact hb85
                refine sm_skip rfl rfl rfl ?_
                refine sm_skip rfl rfl rfl ?_
                refine sm_skip rfl rfl rfl ?_
                refine sm_skip rfl rfl rfl ?_
                refine sm_skip rfl rfl rfl ?_
                refine sm_skip rfl rfl rfl ?_
                refine sm_skip rfl rfl rfl ?_
                refine sm_skip rfl rfl rfl ?_
                refine sm_op (ev_pickT rfl rfl) rfl rfl rfl ?_
                try show aw _ _ _ _ _ _
                refine aw_cond (t := true) rfl ?_
                try show aw _ _ _ _ _ _
                refine aw_seq ?_
                refine aw_reg ?_
                refine st_op (ev_build zero27 pl27 (parts := []) rfl (cs := [.bool false, .int .i64 0, .int .i64 0, .int .i64 0, .int .i64 0, .int .i64 0, .string (⟨#[]⟩)]) rfl) rfl rfl rfl ?_
                have hx87 : Ext H2 H83 := (Ext.trans (Ext.then (Ext.trans (Ext.trans hx10 hx38) hx43) hf81 (fun q hq e => by omega)) hx84)
                have h86 := Ext.blk hx87 (by omega) hB5
                obtain ⟨H88, he89, H88n_, hB90, f91⟩ := mem_store (v := .agg #[.bool false, .int .i64 0, .int .i64 0, .int .i64 0, .int .i64 0, .int .i64 0, .string (⟨#[]⟩)]) (o := 0) (cs' := [.bool false, .int .i64 0, .int .i64 0, .int .i64 0, .int .i64 0, .int .i64 0, .string (⟨#[]⟩)]) 7 rfl rfl size27 h86 rfl rfl rfl
                refine st_op0 (he89 _ _ _ _ _ _ _ _ _ rfl rfl) rfl rfl ?_
                have hf92 : Fr (fun q => q = b1) H83 H88 := Fr.write H88n_ f91
                have H88n : H83.next ≤ H88.next := hf92.1
                refine st_op (ev_assign rfl) rfl rfl rfl ?_
                refine st_op (ev_assign rfl) rfl rfl rfl ?_
                try show aw _ _ _ _ _ _
                refine aw_ret ?_
                have hx93 : Ext H H88 := (Ext.then (Ext.trans (Ext.then (Ext.trans (Ext.trans (Ext.trans hx6 hx10) hx38) hx43) hf81 (fun q hq e => by omega)) hx84) hf92 (fun q hq e => by omega))
                have hres : (Spec.decF b) = (false, 0, 0, 0, 0, 0, (⟨#[]⟩ : ByteArray), 0, 3) := by exact (Spec.decH_x bb hR20 (by omega) (by omega) hR56 hb60 (List.eq_nil_of_length_eq_zero (by omega)) hx73 hx65).2 hb85
                exact ⟨.tuple #[.agg #[.bool false, .int .i64 0, .int .i64 0, .int .i64 0, .int .i64 0, .int .i64 0, .string (⟨#[]⟩)], .int .i64 0, .int .i64 3], (resA_of (resL_cell rfl (lvar_part (l := [.bool false, .int .i64 0, .int .i64 0, .int .i64 0, .int .i64 0, .int .i64 0, .string (⟨#[]⟩)]) many27 hB90 rfl rfl (by decide)) (resL_tmp rfl (resL_tmp rfl resL_nil))) rfl), by rw [hres], (by exact (Spec.decF_all bb).1), (by exact (Spec.decF_all bb).2.1), (by exact (Spec.decF_all bb).2.2), hx93⟩
              ·
                replace hb85 : (Spec.mayF true x72 x64 (0 : Int) (0 : Int) (0 : Int) (⟨#[]⟩ : ByteArray)) = true := by rw [Bool.not_eq_false'] at hb85; exact hb85
                have hb85m := Spec.may_says hb85
                have h94 := Ext.blk hx84 (by omega) hB79
                refine sm_op (ev_load rfl (lvar_part (l := [.bool true, .int .i64 x72, .int .i64 x64, .int .i64 0, .int .i64 0, .int .i64 0, .string (⟨#[]⟩)]) many27 h94 rfl rfl (by decide))) rfl rfl rfl ?_
                refine sm_call rfl rfl rfl ent15 rfl rfl rfl ?_
                obtain ⟨_, H96, hs95, A98, c99, hs95v, hm100, hq101, hx97⟩ := ref17_Encode_spec H83 true x72 x64 (0 : Int) (0 : Int) (0 : Int) (⟨#[]⟩ : ByteArray)
                rw [hs95v] at hs95; clear hs95v
                refine ⟨_, H96, hs95, (fun _ b hb => hx97.2 b (by omega)), ?_⟩
                have H96n : H83.next ≤ H96.next := hx97.1
                refine sm_op (ev_strOf (l := (Spec.encodeF true x72 x64 (0 : Int) (0 : Int) (0 : Int) (⟨#[]⟩ : ByteArray))) (A := A98) (c := c99) slu8_30 isstr_9 rfl (My.anil hm100) (My.row hm100)) rfl rfl rfl ?_
                refine sm_op (ev_move rfl) rfl rfl rfl ?_
                refine sm_op (ev_move rfl) rfl rfl rfl ?_
                have hx111 : Ext H2 H96 := (Ext.trans (Ext.trans (Ext.then (Ext.trans (Ext.trans hx10 hx38) hx43) hf81 (fun q hq e => by omega)) hx84) hx97)
                have h110 := Row.ext h7 hx111
                obtain ⟨A102, c103, L104, hL105, hl106, hs107, hr108, hc109⟩ := sliceA_typed u8c el30 (by decide) h110 cb (lo := none) (hi := some (.int .i64 z23)) (l := 0) (h := (z23).toNat) (by rw [Option.isSome_some, if_pos rfl]; exact bound_int (by first | omega | (simp only [List.length_append, List.length_cons, List.length_nil, List.length_map, List.length_set, List.length_replicate, Spec.bytesOf_length]; omega) | (simp; omega)) (by first | omega | (simp only [List.length_append, List.length_cons, List.length_nil, List.length_map, List.length_set, List.length_replicate, Spec.bytesOf_length]; omega) | (simp; omega)) (by first | rfl | omega)) rfl (by first | omega | (simp only [List.length_append, List.length_cons, List.length_nil, List.length_map, List.length_set, List.length_replicate, Spec.bytesOf_length]; omega) | (simp; omega)) (by first | omega | (simp only [List.length_append, List.length_cons, List.length_nil, List.length_map, List.length_set, List.length_replicate, Spec.bytesOf_length]; omega) | (simp; omega))
                refine sm_read (ev_slice rfl rfl rfl rfl hs107) rfl rfl rfl (fun q hq => Nat.lt_of_lt_of_le (rd_slice rfl rfl h7 hq) (by omega)) ?_
                have hL105b : Spec.Bytes L104 := by rw [hL105]; exact Spec.Bytes.take (Spec.Bytes.drop (by first | assumption | exact Spec.Bytes.nil | exact Spec.bytes_of _ | (repeat' first | assumption | exact Spec.Bytes.nil | exact Spec.bytes_of _ | exact Spec.enc_bytes _ | exact Spec.four_bytes _ | exact Spec.sealF_bytes (by assumption) | apply Spec.Bytes.append | apply Spec.Bytes.cons (by omega) | apply Spec.Bytes.take | apply Spec.Bytes.drop)) _) _
                refine sm_read (ev_strOf (l := L104) (A := A102) (c := c103) slu8_30 isstr_9 rfl (fun h => sliceA_none el30 (h ▸ hs107)) hr108) rfl rfl rfl (fun q hq => Nat.lt_of_lt_of_le (rd_conv2 rfl rfl el30 hs107 h7 (by first | omega | (simp only [List.length_append, List.length_cons, List.length_nil, List.length_map, List.length_set, List.length_replicate, Spec.bytesOf_length]; omega) | (simp; omega)) hq) (by omega)) ?_
                refine sm_op (ev_str rfl rfl rfl) rfl rfl rfl ?_
                refine sm_op (ev_pickF rfl rfl) rfl rfl rfl ?_
                try show aw _ _ _ _ _ _
                by_cases hc112 : (!(((strOfNums (Spec.encodeF true x72 x64 (0 : Int) (0 : Int) (0 : Int) (⟨#[]⟩ : ByteArray)))).toList == ((strOfNums L104)).toList)) = true
                · refine aw_condT hc112 rfl ?_
                  try show aw _ _ _ _ _ _
                  replace hc112 : (((strOfNums (Spec.encodeF true x72 x64 (0 : Int) (0 : Int) (0 : Int) (⟨#[]⟩ : ByteArray)))).toList == ((strOfNums L104)).toList) = false := by rw [Bool.not_eq_true'] at hc112; exact hc112
                  have hc112 := ne_of_beq_false hc112
                  refine aw_seq ?_
                  refine aw_reg ?_
                  refine st_op (ev_build zero27 pl27 (parts := []) rfl (cs := [.bool false, .int .i64 0, .int .i64 0, .int .i64 0, .int .i64 0, .int .i64 0, .string (⟨#[]⟩)]) rfl) rfl rfl rfl ?_
                  have h113 := Ext.blk hx111 (by omega) hB5
                  obtain ⟨H114, he115, H114n_, hB116, f117⟩ := mem_store (v := .agg #[.bool false, .int .i64 0, .int .i64 0, .int .i64 0, .int .i64 0, .int .i64 0, .string (⟨#[]⟩)]) (o := 0) (cs' := [.bool false, .int .i64 0, .int .i64 0, .int .i64 0, .int .i64 0, .int .i64 0, .string (⟨#[]⟩)]) 7 rfl rfl size27 h113 rfl rfl rfl
                  refine st_op0 (he115 _ _ _ _ _ _ _ _ _ rfl rfl) rfl rfl ?_
                  have hf118 : Fr (fun q => q = b1) H96 H114 := Fr.write H114n_ f117
                  have H114n : H96.next ≤ H114.next := hf118.1
                  refine st_op (ev_assign rfl) rfl rfl rfl ?_
                  refine st_op (ev_assign rfl) rfl rfl rfl ?_
                  try show aw _ _ _ _ _ _
                  refine aw_ret ?_
                  have hx119 : Ext H H114 := (Ext.then (Ext.trans (Ext.trans (Ext.then (Ext.trans (Ext.trans (Ext.trans hx6 hx10) hx38) hx43) hf81 (fun q hq e => by omega)) hx84) hx97) hf118 (fun q hq e => by omega))
                  have hres : (Spec.decF b) = (false, 0, 0, 0, 0, 0, (⟨#[]⟩ : ByteArray), 0, 3) := by exact (Spec.decH_ne bb hR20 (by omega) (by omega) hR56 hb60 (List.eq_nil_of_length_eq_zero (by omega)) hx73 hx65 hb85 hL105 hc112).elim
                  exact ⟨.tuple #[.agg #[.bool false, .int .i64 0, .int .i64 0, .int .i64 0, .int .i64 0, .int .i64 0, .string (⟨#[]⟩)], .int .i64 0, .int .i64 3], (resA_of (resL_cell rfl (lvar_part (l := [.bool false, .int .i64 0, .int .i64 0, .int .i64 0, .int .i64 0, .int .i64 0, .string (⟨#[]⟩)]) many27 hB116 rfl rfl (by decide)) (resL_tmp rfl (resL_tmp rfl resL_nil))) rfl), by rw [hres], (by exact (Spec.decF_all bb).1), (by exact (Spec.decF_all bb).2.1), (by exact (Spec.decF_all bb).2.2), hx119⟩
                · rw [Bool.not_eq_true] at hc112; refine aw_condF hc112 rfl ?_
                  try show aw _ _ _ _ _ _
                  replace hc112 : (((strOfNums (Spec.encodeF true x72 x64 (0 : Int) (0 : Int) (0 : Int) (⟨#[]⟩ : ByteArray)))).toList == ((strOfNums L104)).toList) = true := by rw [Bool.not_eq_false'] at hc112; exact hc112
                  have hc112 := eq_of_beq hc112
                  refine aw_skip ?_
                  try show aw _ _ _ _ _ _
                  refine aw_seq ?_
                  refine aw_reg ?_
                  have h120 := Ext.blk hx97 (by omega) h94
                  refine st_op (ev_load rfl (lvar_part (l := [.bool true, .int .i64 x72, .int .i64 x64, .int .i64 0, .int .i64 0, .int .i64 0, .string (⟨#[]⟩)]) many27 h120 rfl rfl (by decide))) rfl rfl rfl ?_
                  refine st_op (ev_move rfl) rfl rfl rfl ?_
                  have h121 := Ext.blk hx111 (by omega) hB5
                  obtain ⟨H122, he123, H122n_, hB124, f125⟩ := mem_store (v := .agg #[.bool true, .int .i64 x72, .int .i64 x64, .int .i64 0, .int .i64 0, .int .i64 0, .string (⟨#[]⟩)]) (o := 0) (cs' := [.bool true, .int .i64 x72, .int .i64 x64, .int .i64 0, .int .i64 0, .int .i64 0, .string (⟨#[]⟩)]) 7 rfl rfl size27 h121 rfl rfl rfl
                  refine st_op0 (he123 _ _ _ _ _ _ _ _ _ rfl rfl) rfl rfl ?_
                  have hf126 : Fr (fun q => q = b1) H96 H122 := Fr.write H122n_ f125
                  have H122n : H96.next ≤ H122.next := hf126.1
                  refine st_op (ev_assign rfl) rfl rfl rfl ?_
                  refine st_op (ev_assign rfl) rfl rfl rfl ?_
                  try show aw _ _ _ _ _ _
                  refine aw_ret ?_
                  have hx127 : Ext H H122 := (Ext.then (Ext.trans (Ext.trans (Ext.then (Ext.trans (Ext.trans (Ext.trans hx6 hx10) hx38) hx43) hf81 (fun q hq e => by omega)) hx84) hx97) hf126 (fun q hq e => by omega))
                  have hres : (Spec.decF b) = (true, x72, x64, 0, 0, 0, (⟨#[]⟩ : ByteArray), z23, 0) := by exact ((Spec.decH_x bb hR20 (by omega) (by omega) hR56 hb60 (List.eq_nil_of_length_eq_zero (by omega)) hx73 hx65).1 hb85).1
                  exact ⟨.tuple #[.agg #[.bool true, .int .i64 x72, .int .i64 x64, .int .i64 0, .int .i64 0, .int .i64 0, .string (⟨#[]⟩)], .int .i64 z23, .int .i64 0], (resA_of (resL_cell rfl (lvar_part (l := [.bool true, .int .i64 x72, .int .i64 x64, .int .i64 0, .int .i64 0, .int .i64 0, .string (⟨#[]⟩)]) many27 hB124 rfl rfl (by decide)) (resL_tmp rfl (resL_tmp rfl resL_nil))) rfl), by rw [hres], (by exact (Spec.decF_all bb).1), (by exact (Spec.decF_all bb).2.1), (by exact (Spec.decF_all bb).2.2), hx127⟩
            · rw [Bool.not_eq_true] at hc69; refine aw_condF hc69 rfl ?_
              try show aw _ _ _ _ _ _
              have hc69 := of_decide_eq_false hc69
              refine aw_skip ?_
              try show aw _ _ _ _ _ _
              refine aw_seq ?_
              refine aw_seq ?_
              refine aw_marks (fun b => b < H42.next) [(false, false), (false, false), (false, false), (false, false), (false, false), (false, true), (false, false), (false, false), (false, false), (true, false), (true, false), (false, false), (false, false)] mixed (by kernel_rfl) (by kernel_rfl) ?_
              have h128 := Ext.blk hx43 (by omega) hB37
              refine sm_op (ev_load rfl (lvar_part (l := [.bool false, .int .i64 0, .int .i64 0, .int .i64 0, .int .i64 0, .int .i64 0, .string (⟨#[]⟩)]) many27 h128 rfl rfl (by decide))) rfl rfl rfl ?_
              refine sm_call rfl rfl rfl ent13 rfl rfl rfl ?_
              obtain ⟨_, H130, hs129, hs129v, hx131⟩ := ref17_May_spec H42 false (0 : Int) (0 : Int) (0 : Int) (0 : Int) (0 : Int) (⟨#[]⟩ : ByteArray)
              rw [hs129v] at hs129; clear hs129v
              refine ⟨_, H130, hs129, (fun _ b hb => hx131.2 b (by omega)), ?_⟩
              have H130n : H42.next ≤ H130.next := hx131.1
              refine sm_op (ev_not rfl) rfl rfl rfl ?_
              refine sm_op (ev_move rfl) rfl rfl rfl ?_
              refine sm_bool 111 rfl (fun hb132 => ?_) (fun hb132 => ?_)
              ·
                replace hb132 : (Spec.mayF false (0 : Int) (0 : Int) (0 : Int) (0 : Int) (0 : Int) (⟨#[]⟩ : ByteArray)) = false := by rw [Bool.not_eq_true'] at hb132; exact hb132
                refine sm_skip rfl rfl rfl ?_
                refine sm_skip rfl rfl rfl ?_
                refine sm_skip rfl rfl rfl ?_
                refine sm_skip rfl rfl rfl ?_
                refine sm_skip rfl rfl rfl ?_
                refine sm_skip rfl rfl rfl ?_
                refine sm_skip rfl rfl rfl ?_
                refine sm_skip rfl rfl rfl ?_
                refine sm_op (ev_pickT rfl rfl) rfl rfl rfl ?_
                try show aw _ _ _ _ _ _
                refine aw_cond (t := true) rfl ?_
                try show aw _ _ _ _ _ _
                refine aw_seq ?_
                refine aw_reg ?_
                refine st_op (ev_build zero27 pl27 (parts := []) rfl (cs := [.bool false, .int .i64 0, .int .i64 0, .int .i64 0, .int .i64 0, .int .i64 0, .string (⟨#[]⟩)]) rfl) rfl rfl rfl ?_
                have hx134 : Ext H2 H130 := (Ext.trans (Ext.trans (Ext.trans hx10 hx38) hx43) hx131)
                have h133 := Ext.blk hx134 (by omega) hB5
                obtain ⟨H135, he136, H135n_, hB137, f138⟩ := mem_store (v := .agg #[.bool false, .int .i64 0, .int .i64 0, .int .i64 0, .int .i64 0, .int .i64 0, .string (⟨#[]⟩)]) (o := 0) (cs' := [.bool false, .int .i64 0, .int .i64 0, .int .i64 0, .int .i64 0, .int .i64 0, .string (⟨#[]⟩)]) 7 rfl rfl size27 h133 rfl rfl rfl
                refine st_op0 (he136 _ _ _ _ _ _ _ _ _ rfl rfl) rfl rfl ?_
                have hf139 : Fr (fun q => q = b1) H130 H135 := Fr.write H135n_ f138
                have H135n : H130.next ≤ H135.next := hf139.1
                refine st_op (ev_assign rfl) rfl rfl rfl ?_
                refine st_op (ev_assign rfl) rfl rfl rfl ?_
                try show aw _ _ _ _ _ _
                refine aw_ret ?_
                have hx140 : Ext H H135 := (Ext.then (Ext.trans (Ext.trans (Ext.trans (Ext.trans hx6 hx10) hx38) hx43) hx131) hf139 (fun q hq e => by omega))
                have hres : (Spec.decF b) = (false, 0, 0, 0, 0, 0, (⟨#[]⟩ : ByteArray), 0, 3) := by first | (exfalso; omega) | exact Spec.decH_no bb hR20 (by omega) (by omega) hR56 (.inr (Spec.ne_nil_of_len (by omega))) | exact Spec.decH_v bb hR20 (by omega) (by omega) hR56 hb60 (List.eq_nil_of_length_eq_zero (by omega)) hx65 (by omega)
                exact ⟨.tuple #[.agg #[.bool false, .int .i64 0, .int .i64 0, .int .i64 0, .int .i64 0, .int .i64 0, .string (⟨#[]⟩)], .int .i64 0, .int .i64 3], (resA_of (resL_cell rfl (lvar_part (l := [.bool false, .int .i64 0, .int .i64 0, .int .i64 0, .int .i64 0, .int .i64 0, .string (⟨#[]⟩)]) many27 hB137 rfl rfl (by decide)) (resL_tmp rfl (resL_tmp rfl resL_nil))) rfl), by rw [hres], (by exact (Spec.decF_all bb).1), (by exact (Spec.decF_all bb).2.1), (by exact (Spec.decF_all bb).2.2), hx140⟩
              ·
                replace hb132 : (Spec.mayF false (0 : Int) (0 : Int) (0 : Int) (0 : Int) (0 : Int) (⟨#[]⟩ : ByteArray)) = true := by rw [Bool.not_eq_false'] at hb132; exact hb132
                have hb132m := Spec.may_says hb132
                exfalso; rw [Spec.mayE_eq] at hb132; exact absurd (of_decide_eq_true hb132) (by omega)
          ·
            have hb66 := of_decide_eq_false hb66
            refine st_skip rfl rfl rfl ?_
            refine st_skip rfl rfl rfl ?_
            refine st_skip rfl rfl rfl ?_
            refine st_skip rfl rfl rfl ?_
            refine st_op (ev_pickF rfl rfl) rfl rfl rfl ?_
            try show aw _ _ _ _ _ _
            refine aw_cond (t := false) rfl ?_
            try show aw _ _ _ _ _ _
            refine aw_skip ?_
            try show aw _ _ _ _ _ _
            refine aw_seq ?_
            refine aw_seq ?_
            refine aw_marks (fun b => b < H42.next) [(false, false), (false, false), (false, false), (false, false), (false, false), (false, true), (false, false), (false, false), (false, false), (true, false), (true, false), (false, false), (false, false)] mixed (by kernel_rfl) (by kernel_rfl) ?_
            have h141 := Ext.blk hx43 (by omega) hB37
            refine sm_op (ev_load rfl (lvar_part (l := [.bool false, .int .i64 0, .int .i64 0, .int .i64 0, .int .i64 0, .int .i64 0, .string (⟨#[]⟩)]) many27 h141 rfl rfl (by decide))) rfl rfl rfl ?_
            refine sm_call rfl rfl rfl ent13 rfl rfl rfl ?_
            obtain ⟨_, H143, hs142, hs142v, hx144⟩ := ref17_May_spec H42 false (0 : Int) (0 : Int) (0 : Int) (0 : Int) (0 : Int) (⟨#[]⟩ : ByteArray)
            rw [hs142v] at hs142; clear hs142v
            refine ⟨_, H143, hs142, (fun _ b hb => hx144.2 b (by omega)), ?_⟩
            have H143n : H42.next ≤ H143.next := hx144.1
            refine sm_op (ev_not rfl) rfl rfl rfl ?_
            refine sm_op (ev_move rfl) rfl rfl rfl ?_
            refine sm_bool 111 rfl (fun hb145 => ?_) (fun hb145 => ?_)
            ·
              replace hb145 : (Spec.mayF false (0 : Int) (0 : Int) (0 : Int) (0 : Int) (0 : Int) (⟨#[]⟩ : ByteArray)) = false := by rw [Bool.not_eq_true'] at hb145; exact hb145
              refine sm_skip rfl rfl rfl ?_
              refine sm_skip rfl rfl rfl ?_
              refine sm_skip rfl rfl rfl ?_
              refine sm_skip rfl rfl rfl ?_
              refine sm_skip rfl rfl rfl ?_
              refine sm_skip rfl rfl rfl ?_
              refine sm_skip rfl rfl rfl ?_
              refine sm_skip rfl rfl rfl ?_
              refine sm_op (ev_pickT rfl rfl) rfl rfl rfl ?_
              try show aw _ _ _ _ _ _
              refine aw_cond (t := true) rfl ?_
              try show aw _ _ _ _ _ _
              refine aw_seq ?_
              refine aw_reg ?_
              refine st_op (ev_build zero27 pl27 (parts := []) rfl (cs := [.bool false, .int .i64 0, .int .i64 0, .int .i64 0, .int .i64 0, .int .i64 0, .string (⟨#[]⟩)]) rfl) rfl rfl rfl ?_
              have hx147 : Ext H2 H143 := (Ext.trans (Ext.trans (Ext.trans hx10 hx38) hx43) hx144)
              have h146 := Ext.blk hx147 (by omega) hB5
              obtain ⟨H148, he149, H148n_, hB150, f151⟩ := mem_store (v := .agg #[.bool false, .int .i64 0, .int .i64 0, .int .i64 0, .int .i64 0, .int .i64 0, .string (⟨#[]⟩)]) (o := 0) (cs' := [.bool false, .int .i64 0, .int .i64 0, .int .i64 0, .int .i64 0, .int .i64 0, .string (⟨#[]⟩)]) 7 rfl rfl size27 h146 rfl rfl rfl
              refine st_op0 (he149 _ _ _ _ _ _ _ _ _ rfl rfl) rfl rfl ?_
              have hf152 : Fr (fun q => q = b1) H143 H148 := Fr.write H148n_ f151
              have H148n : H143.next ≤ H148.next := hf152.1
              refine st_op (ev_assign rfl) rfl rfl rfl ?_
              refine st_op (ev_assign rfl) rfl rfl rfl ?_
              try show aw _ _ _ _ _ _
              refine aw_ret ?_
              have hx153 : Ext H H148 := (Ext.then (Ext.trans (Ext.trans (Ext.trans (Ext.trans hx6 hx10) hx38) hx43) hx144) hf152 (fun q hq e => by omega))
              have hres : (Spec.decF b) = (false, 0, 0, 0, 0, 0, (⟨#[]⟩ : ByteArray), 0, 3) := by first | (exfalso; omega) | exact Spec.decH_no bb hR20 (by omega) (by omega) hR56 (.inr (Spec.ne_nil_of_len (by omega))) | exact Spec.decH_v bb hR20 (by omega) (by omega) hR56 hb60 (List.eq_nil_of_length_eq_zero (by omega)) hx65 (by omega)
              exact ⟨.tuple #[.agg #[.bool false, .int .i64 0, .int .i64 0, .int .i64 0, .int .i64 0, .int .i64 0, .string (⟨#[]⟩)], .int .i64 0, .int .i64 3], (resA_of (resL_cell rfl (lvar_part (l := [.bool false, .int .i64 0, .int .i64 0, .int .i64 0, .int .i64 0, .int .i64 0, .string (⟨#[]⟩)]) many27 hB150 rfl rfl (by decide)) (resL_tmp rfl (resL_tmp rfl resL_nil))) rfl), by rw [hres], (by exact (Spec.decF_all bb).1), (by exact (Spec.decF_all bb).2.1), (by exact (Spec.decF_all bb).2.2), hx153⟩
            ·
              replace hb145 : (Spec.mayF false (0 : Int) (0 : Int) (0 : Int) (0 : Int) (0 : Int) (⟨#[]⟩ : ByteArray)) = true := by rw [Bool.not_eq_false'] at hb145; exact hb145
              have hb145m := Spec.may_says hb145
              exfalso; rw [Spec.mayE_eq] at hb145; exact absurd (of_decide_eq_true hb145) (by omega)
        ·
          have hb61 := ne_of_beq_false hb61
          refine st_skip rfl rfl rfl ?_
          refine st_skip rfl rfl rfl ?_
          refine st_skip rfl rfl rfl ?_
          refine st_skip rfl rfl rfl ?_
          refine st_op (ev_pickF rfl rfl) rfl rfl rfl ?_
          refine st_op (ev_move rfl) rfl rfl rfl ?_
          refine st_skip rfl rfl rfl ?_
          refine st_skip rfl rfl rfl ?_
          refine st_skip rfl rfl rfl ?_
          refine st_skip rfl rfl rfl ?_
          refine st_op (ev_pickF rfl rfl) rfl rfl rfl ?_
          try show aw _ _ _ _ _ _
          refine aw_cond (t := false) rfl ?_
          try show aw _ _ _ _ _ _
          refine aw_skip ?_
          try show aw _ _ _ _ _ _
          refine aw_seq ?_
          refine aw_seq ?_
          refine aw_marks (fun b => b < H42.next) [(false, false), (false, false), (false, false), (false, false), (false, false), (false, true), (false, false), (false, false), (false, false), (true, false), (true, false), (false, false), (false, false)] mixed (by kernel_rfl) (by kernel_rfl) ?_
          have h154 := Ext.blk hx43 (by omega) hB37
          refine sm_op (ev_load rfl (lvar_part (l := [.bool false, .int .i64 0, .int .i64 0, .int .i64 0, .int .i64 0, .int .i64 0, .string (⟨#[]⟩)]) many27 h154 rfl rfl (by decide))) rfl rfl rfl ?_
          refine sm_call rfl rfl rfl ent13 rfl rfl rfl ?_
          obtain ⟨_, H156, hs155, hs155v, hx157⟩ := ref17_May_spec H42 false (0 : Int) (0 : Int) (0 : Int) (0 : Int) (0 : Int) (⟨#[]⟩ : ByteArray)
          rw [hs155v] at hs155; clear hs155v
          refine ⟨_, H156, hs155, (fun _ b hb => hx157.2 b (by omega)), ?_⟩
          have H156n : H42.next ≤ H156.next := hx157.1
          refine sm_op (ev_not rfl) rfl rfl rfl ?_
          refine sm_op (ev_move rfl) rfl rfl rfl ?_
          refine sm_bool 111 rfl (fun hb158 => ?_) (fun hb158 => ?_)
          ·
            replace hb158 : (Spec.mayF false (0 : Int) (0 : Int) (0 : Int) (0 : Int) (0 : Int) (⟨#[]⟩ : ByteArray)) = false := by rw [Bool.not_eq_true'] at hb158; exact hb158
            refine sm_skip rfl rfl rfl ?_
            refine sm_skip rfl rfl rfl ?_
            refine sm_skip rfl rfl rfl ?_
            refine sm_skip rfl rfl rfl ?_
            refine sm_skip rfl rfl rfl ?_
            refine sm_skip rfl rfl rfl ?_
            refine sm_skip rfl rfl rfl ?_
            refine sm_skip rfl rfl rfl ?_
            refine sm_op (ev_pickT rfl rfl) rfl rfl rfl ?_
            try show aw _ _ _ _ _ _
            refine aw_cond (t := true) rfl ?_
            try show aw _ _ _ _ _ _
            refine aw_seq ?_
            refine aw_reg ?_
            refine st_op (ev_build zero27 pl27 (parts := []) rfl (cs := [.bool false, .int .i64 0, .int .i64 0, .int .i64 0, .int .i64 0, .int .i64 0, .string (⟨#[]⟩)]) rfl) rfl rfl rfl ?_
            have hx160 : Ext H2 H156 := (Ext.trans (Ext.trans (Ext.trans hx10 hx38) hx43) hx157)
            have h159 := Ext.blk hx160 (by omega) hB5
            obtain ⟨H161, he162, H161n_, hB163, f164⟩ := mem_store (v := .agg #[.bool false, .int .i64 0, .int .i64 0, .int .i64 0, .int .i64 0, .int .i64 0, .string (⟨#[]⟩)]) (o := 0) (cs' := [.bool false, .int .i64 0, .int .i64 0, .int .i64 0, .int .i64 0, .int .i64 0, .string (⟨#[]⟩)]) 7 rfl rfl size27 h159 rfl rfl rfl
            refine st_op0 (he162 _ _ _ _ _ _ _ _ _ rfl rfl) rfl rfl ?_
            have hf165 : Fr (fun q => q = b1) H156 H161 := Fr.write H161n_ f164
            have H161n : H156.next ≤ H161.next := hf165.1
            refine st_op (ev_assign rfl) rfl rfl rfl ?_
            refine st_op (ev_assign rfl) rfl rfl rfl ?_
            try show aw _ _ _ _ _ _
            refine aw_ret ?_
            have hx166 : Ext H H161 := (Ext.then (Ext.trans (Ext.trans (Ext.trans (Ext.trans hx6 hx10) hx38) hx43) hx157) hf165 (fun q hq e => by omega))
            have hres : (Spec.decF b) = (false, 0, 0, 0, 0, 0, (⟨#[]⟩ : ByteArray), 0, 3) := by first | (exfalso; omega) | exact Spec.decH_no bb hR20 (by omega) (by omega) hR56 (.inr (Spec.ne_nil_of_len (by omega)))
            exact ⟨.tuple #[.agg #[.bool false, .int .i64 0, .int .i64 0, .int .i64 0, .int .i64 0, .int .i64 0, .string (⟨#[]⟩)], .int .i64 0, .int .i64 3], (resA_of (resL_cell rfl (lvar_part (l := [.bool false, .int .i64 0, .int .i64 0, .int .i64 0, .int .i64 0, .int .i64 0, .string (⟨#[]⟩)]) many27 hB163 rfl rfl (by decide)) (resL_tmp rfl (resL_tmp rfl resL_nil))) rfl), by rw [hres], (by exact (Spec.decF_all bb).1), (by exact (Spec.decF_all bb).2.1), (by exact (Spec.decF_all bb).2.2), hx166⟩
          ·
            replace hb158 : (Spec.mayF false (0 : Int) (0 : Int) (0 : Int) (0 : Int) (0 : Int) (⟨#[]⟩ : ByteArray)) = true := by rw [Bool.not_eq_false'] at hb158; exact hb158
            have hb158m := Spec.may_says hb158
            exfalso; rw [Spec.mayE_eq] at hb158; exact absurd (of_decide_eq_true hb158) (by omega)
      ·
        refine st_skip rfl rfl rfl ?_
        refine st_skip rfl rfl rfl ?_
        refine st_skip rfl rfl rfl ?_
        refine st_op (ev_pickF rfl rfl) rfl rfl rfl ?_
        refine st_op (ev_move rfl) rfl rfl rfl ?_
        refine st_skip rfl rfl rfl ?_
        refine st_skip rfl rfl rfl ?_
        refine st_skip rfl rfl rfl ?_
        refine st_skip rfl rfl rfl ?_
        refine st_op (ev_pickF rfl rfl) rfl rfl rfl ?_
        refine st_op (ev_move rfl) rfl rfl rfl ?_
        refine st_skip rfl rfl rfl ?_
        refine st_skip rfl rfl rfl ?_
        refine st_skip rfl rfl rfl ?_
        refine st_skip rfl rfl rfl ?_
        refine st_op (ev_pickF rfl rfl) rfl rfl rfl ?_
        try show aw _ _ _ _ _ _
        refine aw_cond (t := false) rfl ?_
        try show aw _ _ _ _ _ _
        refine aw_skip ?_
        try show aw _ _ _ _ _ _
        refine aw_seq ?_
        refine aw_seq ?_
        refine aw_marks (fun b => b < H42.next) [(false, false), (false, false), (false, false), (false, false), (false, false), (false, true), (false, false), (false, false), (false, false), (true, false), (true, false), (false, false), (false, false)] mixed (by kernel_rfl) (by kernel_rfl) ?_
        have h167 := Ext.blk hx43 (by omega) hB37
        refine sm_op (ev_load rfl (lvar_part (l := [.bool false, .int .i64 0, .int .i64 0, .int .i64 0, .int .i64 0, .int .i64 0, .string (⟨#[]⟩)]) many27 h167 rfl rfl (by decide))) rfl rfl rfl ?_
        refine sm_call rfl rfl rfl ent13 rfl rfl rfl ?_
        obtain ⟨_, H169, hs168, hs168v, hx170⟩ := ref17_May_spec H42 false (0 : Int) (0 : Int) (0 : Int) (0 : Int) (0 : Int) (⟨#[]⟩ : ByteArray)
        rw [hs168v] at hs168; clear hs168v
        refine ⟨_, H169, hs168, (fun _ b hb => hx170.2 b (by omega)), ?_⟩
        have H169n : H42.next ≤ H169.next := hx170.1
        refine sm_op (ev_not rfl) rfl rfl rfl ?_
        refine sm_op (ev_move rfl) rfl rfl rfl ?_
        refine sm_bool 111 rfl (fun hb171 => ?_) (fun hb171 => ?_)
        ·
          replace hb171 : (Spec.mayF false (0 : Int) (0 : Int) (0 : Int) (0 : Int) (0 : Int) (⟨#[]⟩ : ByteArray)) = false := by rw [Bool.not_eq_true'] at hb171; exact hb171
          refine sm_skip rfl rfl rfl ?_
          refine sm_skip rfl rfl rfl ?_
          refine sm_skip rfl rfl rfl ?_
          refine sm_skip rfl rfl rfl ?_
          refine sm_skip rfl rfl rfl ?_
          refine sm_skip rfl rfl rfl ?_
          refine sm_skip rfl rfl rfl ?_
          refine sm_skip rfl rfl rfl ?_
          refine sm_op (ev_pickT rfl rfl) rfl rfl rfl ?_
          try show aw _ _ _ _ _ _
          refine aw_cond (t := true) rfl ?_
          try show aw _ _ _ _ _ _
          refine aw_seq ?_
          refine aw_reg ?_
          refine st_op (ev_build zero27 pl27 (parts := []) rfl (cs := [.bool false, .int .i64 0, .int .i64 0, .int .i64 0, .int .i64 0, .int .i64 0, .string (⟨#[]⟩)]) rfl) rfl rfl rfl ?_
          have hx173 : Ext H2 H169 := (Ext.trans (Ext.trans (Ext.trans hx10 hx38) hx43) hx170)
          have h172 := Ext.blk hx173 (by omega) hB5
          obtain ⟨H174, he175, H174n_, hB176, f177⟩ := mem_store (v := .agg #[.bool false, .int .i64 0, .int .i64 0, .int .i64 0, .int .i64 0, .int .i64 0, .string (⟨#[]⟩)]) (o := 0) (cs' := [.bool false, .int .i64 0, .int .i64 0, .int .i64 0, .int .i64 0, .int .i64 0, .string (⟨#[]⟩)]) 7 rfl rfl size27 h172 rfl rfl rfl
          refine st_op0 (he175 _ _ _ _ _ _ _ _ _ rfl rfl) rfl rfl ?_
          have hf178 : Fr (fun q => q = b1) H169 H174 := Fr.write H174n_ f177
          have H174n : H169.next ≤ H174.next := hf178.1
          refine st_op (ev_assign rfl) rfl rfl rfl ?_
          refine st_op (ev_assign rfl) rfl rfl rfl ?_
          try show aw _ _ _ _ _ _
          refine aw_ret ?_
          have hx179 : Ext H H174 := (Ext.then (Ext.trans (Ext.trans (Ext.trans (Ext.trans hx6 hx10) hx38) hx43) hx170) hf178 (fun q hq e => by omega))
          have hres : (Spec.decF b) = (false, 0, 0, 0, 0, 0, (⟨#[]⟩ : ByteArray), 0, 3) := by exact Spec.decH_no bb hR20 (by omega) (by omega) hR56 (.inl hb60)
          exact ⟨.tuple #[.agg #[.bool false, .int .i64 0, .int .i64 0, .int .i64 0, .int .i64 0, .int .i64 0, .string (⟨#[]⟩)], .int .i64 0, .int .i64 3], (resA_of (resL_cell rfl (lvar_part (l := [.bool false, .int .i64 0, .int .i64 0, .int .i64 0, .int .i64 0, .int .i64 0, .string (⟨#[]⟩)]) many27 hB176 rfl rfl (by decide)) (resL_tmp rfl (resL_tmp rfl resL_nil))) rfl), by rw [hres], (by exact (Spec.decF_all bb).1), (by exact (Spec.decF_all bb).2.1), (by exact (Spec.decF_all bb).2.2), hx179⟩
        ·
          replace hb171 : (Spec.mayF false (0 : Int) (0 : Int) (0 : Int) (0 : Int) (0 : Int) (⟨#[]⟩ : ByteArray)) = true := by rw [Bool.not_eq_false'] at hb171; exact hb171
          have hb171m := Spec.may_says hb171
          exfalso; rw [Spec.mayE_eq] at hb171; exact absurd (of_decide_eq_true hb171) (by omega)
    · rw [Bool.not_eq_true] at hc39; refine aw_condF hc39 rfl ?_
      try show aw _ _ _ _ _ _
      have hc39 := ne_of_beq_false hc39
      refine aw_seq ?_
      refine aw_reg ?_
      refine st_op (ev_int rfl rfl rfl) rfl rfl rfl ?_
      refine st_op (ev_assign rfl) rfl rfl rfl ?_
      try show aw _ _ _ _ _ _
      by_cases hc180 : (z21 == 2) = true
      · refine aw_condT hc180 rfl ?_
        try show aw _ _ _ _ _ _
        have hc180 := eq_of_beq hc180
        refine aw_seq ?_
        refine aw_reg ?_
        refine st_op (ev_move rfl) rfl rfl rfl ?_
        refine st_call rfl rfl rfl ent43 rfl rfl rfl ?_
        have h181 := Row.ext hm13 hx38
        obtain ⟨_, H183, hs182, A185, c186, A188, c189, hs182v, hm187, hm190, hk195, hq191, hq192, hq193, hq194, hx184⟩ := ref17_numbers_spec H34 A11 z22 c12 h181 hk18 (by first | omega | (simp only [List.length_append, List.length_cons, List.length_nil, List.length_map, List.length_set, List.length_replicate, Spec.bytesOf_length]; omega) | (simp; omega)) (by first | assumption | exact Spec.Bytes.nil | exact Spec.bytes_of _ | (repeat' first | assumption | exact Spec.Bytes.nil | exact Spec.bytes_of _ | exact Spec.enc_bytes _ | exact Spec.four_bytes _ | exact Spec.sealF_bytes (by assumption) | apply Spec.Bytes.append | apply Spec.Bytes.cons (by omega) | apply Spec.Bytes.take | apply Spec.Bytes.drop)) 3 (by decide)
        rw [hs182v] at hs182; clear hs182v
        generalize hR197 : (Spec.numsF (3 : Int).toNat z22 []) = r196 at hs182 hm187 hm190 hk195 hq191 hq192 hq193 hq194
        obtain ⟨z198, z199, z200⟩ := r196
        dsimp only at hs182 hm187 hm190 hk195 hq191 hq192 hq193 hq194
        refine ⟨_, H183, hs182, ?_⟩
        have H183n : H34.next ≤ H183.next := hx184.1
        refine st_op (ev_move rfl) rfl rfl rfl ?_
        refine st_op (ev_extract rfl rfl) rfl rfl rfl ?_
        refine st_op (ev_extract rfl rfl) rfl rfl rfl ?_
        refine st_op (ev_extract rfl rfl) rfl rfl rfl ?_
        refine st_op (ev_assign rfl) rfl rfl rfl ?_
        refine st_op (ev_assign rfl) rfl rfl rfl ?_
        refine st_op (ev_assign rfl) rfl rfl rfl ?_
        try show aw _ _ _ _ _ _
        refine aw_seq ?_
        refine aw_seq ?_
        refine aw_reg ?_
        refine st_op (ev_move rfl) rfl rfl rfl ?_
        refine st_op (ev_not rfl) rfl rfl rfl ?_
        refine st_op (ev_move rfl) rfl rfl rfl ?_
        refine st_bool 75 rfl (fun hb201 => ?_) (fun hb201 => ?_)
        ·
          replace hb201 : z200 = false := by rw [Bool.not_eq_true'] at hb201; exact hb201
          refine st_skip rfl rfl rfl ?_
          refine st_skip rfl rfl rfl ?_
          refine st_skip rfl rfl rfl ?_
          refine st_skip rfl rfl rfl ?_
          refine st_op (ev_pickT rfl rfl) rfl rfl rfl ?_
          refine st_op (ev_move rfl) rfl rfl rfl ?_
          refine st_skip rfl rfl rfl ?_
          refine st_skip rfl rfl rfl ?_
          refine st_skip rfl rfl rfl ?_
          refine st_skip rfl rfl rfl ?_
          refine st_op (ev_pickT rfl rfl) rfl rfl rfl ?_
          try show aw _ _ _ _ _ _
          refine aw_cond (t := true) rfl ?_
          try show aw _ _ _ _ _ _
          refine aw_seq ?_
          refine aw_reg ?_
          refine st_op (ev_build zero27 pl27 (parts := []) rfl (cs := [.bool false, .int .i64 0, .int .i64 0, .int .i64 0, .int .i64 0, .int .i64 0, .string (⟨#[]⟩)]) rfl) rfl rfl rfl ?_
          have hx203 : Ext H2 H183 := (Ext.trans (Ext.trans hx10 hx38) hx184)
          have h202 := Ext.blk hx203 (by omega) hB5
          obtain ⟨H204, he205, H204n_, hB206, f207⟩ := mem_store (v := .agg #[.bool false, .int .i64 0, .int .i64 0, .int .i64 0, .int .i64 0, .int .i64 0, .string (⟨#[]⟩)]) (o := 0) (cs' := [.bool false, .int .i64 0, .int .i64 0, .int .i64 0, .int .i64 0, .int .i64 0, .string (⟨#[]⟩)]) 7 rfl rfl size27 h202 rfl rfl rfl
          refine st_op0 (he205 _ _ _ _ _ _ _ _ _ rfl rfl) rfl rfl ?_
          have hf208 : Fr (fun q => q = b1) H183 H204 := Fr.write H204n_ f207
          have H204n : H183.next ≤ H204.next := hf208.1
          refine st_op (ev_assign rfl) rfl rfl rfl ?_
          refine st_op (ev_assign rfl) rfl rfl rfl ?_
          try show aw _ _ _ _ _ _
          refine aw_ret ?_
          have hx209 : Ext H H204 := (Ext.then (Ext.trans (Ext.trans (Ext.trans hx6 hx10) hx38) hx184) hf208 (fun q hq e => by omega))
          have hres : (Spec.decF b) = (false, 0, 0, 0, 0, 0, (⟨#[]⟩ : ByteArray), 0, 3) := by exact Spec.decE_no bb hR20 (by omega) (by omega) hR197 hb201
          exact ⟨.tuple #[.agg #[.bool false, .int .i64 0, .int .i64 0, .int .i64 0, .int .i64 0, .int .i64 0, .string (⟨#[]⟩)], .int .i64 0, .int .i64 3], (resA_of (resL_cell rfl (lvar_part (l := [.bool false, .int .i64 0, .int .i64 0, .int .i64 0, .int .i64 0, .int .i64 0, .string (⟨#[]⟩)]) many27 hB206 rfl rfl (by decide)) (resL_tmp rfl (resL_tmp rfl resL_nil))) rfl), by rw [hres], (by exact (Spec.decF_all bb).1), (by exact (Spec.decF_all bb).2.1), (by exact (Spec.decF_all bb).2.2), hx209⟩
        ·
          replace hb201 : z200 = true := by rw [Bool.not_eq_false'] at hb201; exact hb201
          have hb201l := hq194 hb201
          refine st_op (ev_move rfl) rfl rfl rfl ?_
          have hi210 : 0 ≤ (2 : Int) := by omega
          have hi211 : (2 : Int) < ((z198.length : Nat) : Int) := by first | omega | (simp only [List.length_append, List.length_cons, List.length_nil, List.length_map, List.length_set, List.length_replicate, Spec.bytesOf_length]; omega) | (simp; omega)
          obtain ⟨x212, hx213⟩ : ∃ e, z198[2]? = some e := ⟨_, List.getElem?_eq_getElem (by first | omega | (simp only [List.length_append, List.length_cons, List.length_nil, List.length_map, List.length_set, List.length_replicate, Spec.bytesOf_length]; omega) | (simp; omega))⟩
          refine st_op (ev_at rfl rfl (My.row hm187) (getMap i64c hx213) (by first | rfl | omega | simp) hi210 hi211 el81) rfl rfl rfl ?_
          refine st_op (ev_atL rfl (My.row hm187) (getMap i64c hx213) one2 rfl) rfl rfl rfl ?_
          refine st_op (ev_int rfl rfl rfl) rfl rfl rfl ?_
          refine st_op (ev_pickF rfl rfl) rfl rfl rfl ?_
          refine st_op (ev_move rfl) rfl rfl rfl ?_
          refine st_bool 81 rfl (fun hb214 => ?_) (fun hb214 => ?_)
          ·
            have hb214 := of_decide_eq_true hb214
            refine st_skip rfl rfl rfl ?_
            refine st_skip rfl rfl rfl ?_
            refine st_skip rfl rfl rfl ?_
            refine st_skip rfl rfl rfl ?_
            refine st_op (ev_pickT rfl rfl) rfl rfl rfl ?_
            try show aw _ _ _ _ _ _
            refine aw_cond (t := true) rfl ?_
            try show aw _ _ _ _ _ _
            refine aw_seq ?_
            refine aw_reg ?_
            refine st_op (ev_build zero27 pl27 (parts := []) rfl (cs := [.bool false, .int .i64 0, .int .i64 0, .int .i64 0, .int .i64 0, .int .i64 0, .string (⟨#[]⟩)]) rfl) rfl rfl rfl ?_
            have hx216 : Ext H2 H183 := (Ext.trans (Ext.trans hx10 hx38) hx184)
            have h215 := Ext.blk hx216 (by omega) hB5
            obtain ⟨H217, he218, H217n_, hB219, f220⟩ := mem_store (v := .agg #[.bool false, .int .i64 0, .int .i64 0, .int .i64 0, .int .i64 0, .int .i64 0, .string (⟨#[]⟩)]) (o := 0) (cs' := [.bool false, .int .i64 0, .int .i64 0, .int .i64 0, .int .i64 0, .int .i64 0, .string (⟨#[]⟩)]) 7 rfl rfl size27 h215 rfl rfl rfl
            refine st_op0 (he218 _ _ _ _ _ _ _ _ _ rfl rfl) rfl rfl ?_
            have hf221 : Fr (fun q => q = b1) H183 H217 := Fr.write H217n_ f220
            have H217n : H183.next ≤ H217.next := hf221.1
            refine st_op (ev_assign rfl) rfl rfl rfl ?_
            refine st_op (ev_assign rfl) rfl rfl rfl ?_
            try show aw _ _ _ _ _ _
            refine aw_ret ?_
            have hx222 : Ext H H217 := (Ext.then (Ext.trans (Ext.trans (Ext.trans hx6 hx10) hx38) hx184) hf221 (fun q hq e => by omega))
            have hres : (Spec.decF b) = (false, 0, 0, 0, 0, 0, (⟨#[]⟩ : ByteArray), 0, 3) := by exact Spec.decE_q bb hR20 (by omega) (by omega) hR197 hb201 hx213 (by omega)
            exact ⟨.tuple #[.agg #[.bool false, .int .i64 0, .int .i64 0, .int .i64 0, .int .i64 0, .int .i64 0, .string (⟨#[]⟩)], .int .i64 0, .int .i64 3], (resA_of (resL_cell rfl (lvar_part (l := [.bool false, .int .i64 0, .int .i64 0, .int .i64 0, .int .i64 0, .int .i64 0, .string (⟨#[]⟩)]) many27 hB219 rfl rfl (by decide)) (resL_tmp rfl (resL_tmp rfl resL_nil))) rfl), by rw [hres], (by exact (Spec.decF_all bb).1), (by exact (Spec.decF_all bb).2.1), (by exact (Spec.decF_all bb).2.2), hx222⟩
          ·
            have hb214 := of_decide_eq_false hb214
            refine st_op (ev_move rfl) rfl rfl rfl ?_
            have hi223 : 0 ≤ (2 : Int) := by omega
            have hi224 : (2 : Int) < ((z198.length : Nat) : Int) := by first | omega | (simp only [List.length_append, List.length_cons, List.length_nil, List.length_map, List.length_set, List.length_replicate, Spec.bytesOf_length]; omega) | (simp; omega)
            refine st_op (ev_at rfl rfl (My.row hm187) (getMap i64c hx213) (by first | rfl | omega | simp) hi223 hi224 el81) rfl rfl rfl ?_
            refine st_op (ev_atL rfl (My.row hm187) (getMap i64c hx213) one2 rfl) rfl rfl rfl ?_
            refine st_op (ev_int rfl rfl rfl) rfl rfl rfl ?_
            refine st_op (ev_pickF rfl rfl) rfl rfl rfl ?_
            try show aw _ _ _ _ _ _
            by_cases hc225 : (decide (x212 > 3)) = true
            · refine aw_condT hc225 rfl ?_
              try show aw _ _ _ _ _ _
              have hc225 := of_decide_eq_true hc225
              refine aw_seq ?_
              refine aw_reg ?_
              refine st_op (ev_build zero27 pl27 (parts := []) rfl (cs := [.bool false, .int .i64 0, .int .i64 0, .int .i64 0, .int .i64 0, .int .i64 0, .string (⟨#[]⟩)]) rfl) rfl rfl rfl ?_
              have hx227 : Ext H2 H183 := (Ext.trans (Ext.trans hx10 hx38) hx184)
              have h226 := Ext.blk hx227 (by omega) hB5
              obtain ⟨H228, he229, H228n_, hB230, f231⟩ := mem_store (v := .agg #[.bool false, .int .i64 0, .int .i64 0, .int .i64 0, .int .i64 0, .int .i64 0, .string (⟨#[]⟩)]) (o := 0) (cs' := [.bool false, .int .i64 0, .int .i64 0, .int .i64 0, .int .i64 0, .int .i64 0, .string (⟨#[]⟩)]) 7 rfl rfl size27 h226 rfl rfl rfl
              refine st_op0 (he229 _ _ _ _ _ _ _ _ _ rfl rfl) rfl rfl ?_
              have hf232 : Fr (fun q => q = b1) H183 H228 := Fr.write H228n_ f231
              have H228n : H183.next ≤ H228.next := hf232.1
              refine st_op (ev_assign rfl) rfl rfl rfl ?_
              refine st_op (ev_assign rfl) rfl rfl rfl ?_
              try show aw _ _ _ _ _ _
              refine aw_ret ?_
              have hx233 : Ext H H228 := (Ext.then (Ext.trans (Ext.trans (Ext.trans hx6 hx10) hx38) hx184) hf232 (fun q hq e => by omega))
              have hres : (Spec.decF b) = (false, 0, 0, 0, 0, 0, (⟨#[]⟩ : ByteArray), 0, 3) := by exact Spec.decE_q bb hR20 (by omega) (by omega) hR197 hb201 hx213 (by omega)
              exact ⟨.tuple #[.agg #[.bool false, .int .i64 0, .int .i64 0, .int .i64 0, .int .i64 0, .int .i64 0, .string (⟨#[]⟩)], .int .i64 0, .int .i64 3], (resA_of (resL_cell rfl (lvar_part (l := [.bool false, .int .i64 0, .int .i64 0, .int .i64 0, .int .i64 0, .int .i64 0, .string (⟨#[]⟩)]) many27 hB230 rfl rfl (by decide)) (resL_tmp rfl (resL_tmp rfl resL_nil))) rfl), by rw [hres], (by exact (Spec.decF_all bb).1), (by exact (Spec.decF_all bb).2.1), (by exact (Spec.decF_all bb).2.2), hx233⟩
            · rw [Bool.not_eq_true] at hc225; refine aw_condF hc225 rfl ?_
              try show aw _ _ _ _ _ _
              have hc225 := of_decide_eq_false hc225
              refine aw_skip ?_
              try show aw _ _ _ _ _ _
              refine aw_seq ?_
              refine aw_reg ?_
              refine st_op (ev_move rfl) rfl rfl rfl ?_
              refine st_call rfl rfl rfl ent44 rfl rfl rfl ?_
              obtain ⟨_, H235, hs234, hs234v, hq237, hq238, hq239, hq240, hq241, hx236⟩ := ref1_GetText_spec H183 A188 z199 c189 hm190 hk195 (by first | omega | (simp only [List.length_append, List.length_cons, List.length_nil, List.length_map, List.length_set, List.length_replicate, Spec.bytesOf_length]; omega) | (simp; omega)) (by first | assumption | exact Spec.Bytes.nil | exact Spec.bytes_of _ | (repeat' first | assumption | exact Spec.Bytes.nil | exact Spec.bytes_of _ | exact Spec.enc_bytes _ | exact Spec.four_bytes _ | exact Spec.sealF_bytes (by assumption) | apply Spec.Bytes.append | apply Spec.Bytes.cons (by omega) | apply Spec.Bytes.take | apply Spec.Bytes.drop))
              rw [hs234v] at hs234; clear hs234v
              generalize hR243 : (Spec.getText z199) = r242 at hs234 hq237 hq238 hq239 hq240 hq241
              obtain ⟨z244, z245, z246⟩ := r242
              dsimp only at hs234 hq237 hq238 hq239 hq240 hq241
              refine ⟨_, H235, hs234, ?_⟩
              have H235n : H183.next ≤ H235.next := hx236.1
              refine st_op (ev_move rfl) rfl rfl rfl ?_
              refine st_op (ev_extract rfl rfl) rfl rfl rfl ?_
              refine st_op (ev_extract rfl rfl) rfl rfl rfl ?_
              refine st_op (ev_extract rfl rfl) rfl rfl rfl ?_
              refine st_op (ev_assign rfl) rfl rfl rfl ?_
              refine st_op (ev_assign rfl) rfl rfl rfl ?_
              refine st_op (ev_assign rfl) rfl rfl rfl ?_
              try show aw _ _ _ _ _ _
              refine aw_seq ?_
              refine aw_reg ?_
              refine st_op (ev_move rfl) rfl rfl rfl ?_
              refine st_op (ev_int rfl rfl rfl) rfl rfl rfl ?_
              try show aw _ _ _ _ _ _
              by_cases hc247 : (z246 == 0) = true
              · refine aw_condT hc247 rfl ?_
                try show aw _ _ _ _ _ _
                have hc247 := eq_of_beq hc247
                refine aw_marks (fun b => b < H235.next) [(false, false), (false, false), (false, false), (false, false), (false, false), (false, false), (false, false), (false, false), (false, false), (false, false), (false, false), (false, false), (false, false)] mixed (by kernel_rfl) (by kernel_rfl) ?_
                refine sm_op (ev_move rfl) rfl rfl rfl ?_
                have h248 := My.ext hm187 hx236
                have hi249 : 0 ≤ (0 : Int) := by omega
                have hi250 : (0 : Int) < ((z198.length : Nat) : Int) := by first | omega | (simp only [List.length_append, List.length_cons, List.length_nil, List.length_map, List.length_set, List.length_replicate, Spec.bytesOf_length]; omega) | (simp; omega)
                obtain ⟨x251, hx252⟩ : ∃ e, z198[0]? = some e := ⟨_, List.getElem?_eq_getElem (by first | omega | (simp only [List.length_append, List.length_cons, List.length_nil, List.length_map, List.length_set, List.length_replicate, Spec.bytesOf_length]; omega) | (simp; omega))⟩
                refine sm_op (ev_at rfl rfl (My.row h248) (getMap i64c hx252) (by first | rfl | omega | simp) hi249 hi250 el81) rfl rfl rfl ?_
                refine sm_op (ev_atL rfl (My.row h248) (getMap i64c hx252) one2 rfl) rfl rfl rfl ?_
                refine sm_op (ev_move rfl) rfl rfl rfl ?_
                have hi253 : 0 ≤ (1 : Int) := by omega
                have hi254 : (1 : Int) < ((z198.length : Nat) : Int) := by first | omega | (simp only [List.length_append, List.length_cons, List.length_nil, List.length_map, List.length_set, List.length_replicate, Spec.bytesOf_length]; omega) | (simp; omega)
                obtain ⟨x255, hx256⟩ : ∃ e, z198[1]? = some e := ⟨_, List.getElem?_eq_getElem (by first | omega | (simp only [List.length_append, List.length_cons, List.length_nil, List.length_map, List.length_set, List.length_replicate, Spec.bytesOf_length]; omega) | (simp; omega))⟩
                refine sm_op (ev_at rfl rfl (My.row h248) (getMap i64c hx256) (by first | rfl | omega | simp) hi253 hi254 el81) rfl rfl rfl ?_
                refine sm_op (ev_atL rfl (My.row h248) (getMap i64c hx256) one2 rfl) rfl rfl rfl ?_
                refine sm_op (ev_move rfl) rfl rfl rfl ?_
                have hi257 : 0 ≤ (2 : Int) := by omega
                have hi258 : (2 : Int) < ((z198.length : Nat) : Int) := by first | omega | (simp only [List.length_append, List.length_cons, List.length_nil, List.length_map, List.length_set, List.length_replicate, Spec.bytesOf_length]; omega) | (simp; omega)
                refine sm_op (ev_at rfl rfl (My.row h248) (getMap i64c hx213) (by first | rfl | omega | simp) hi257 hi258 el81) rfl rfl rfl ?_
                refine sm_op (ev_atL rfl (My.row h248) (getMap i64c hx213) one2 rfl) rfl rfl rfl ?_
                refine sm_op (ev_move rfl) rfl rfl rfl ?_
                refine sm_op (ev_build zero25 pl25 (parts := [(0, .int .i64 x251), (1, .int .i64 x255), (2, .int .i64 x212), (3, .string z244)]) rfl (cs := [.int .i64 x251, .int .i64 x255, .int .i64 x212, .string z244]) rfl) rfl rfl rfl ?_
                refine sm_op (ev_build zero27 pl27 (parts := [(2, .agg #[.int .i64 x251, .int .i64 x255, .int .i64 x212, .string z244])]) rfl (cs := [.bool false, .int .i64 0, .int .i64 0, .int .i64 x251, .int .i64 x255, .int .i64 x212, .string z244]) rfl) rfl rfl rfl ?_
                have hx260 : Ext H34 H235 := (Ext.trans hx184 hx236)
                have h259 := Ext.blk hx260 (by omega) hB37
                obtain ⟨H261, he262, H261n_, hB263, f264⟩ := mem_store (v := .agg #[.bool false, .int .i64 0, .int .i64 0, .int .i64 x251, .int .i64 x255, .int .i64 x212, .string z244]) (o := 0) (cs' := [.bool false, .int .i64 0, .int .i64 0, .int .i64 x251, .int .i64 x255, .int .i64 x212, .string z244]) 7 rfl rfl size27 h259 rfl rfl rfl
                refine sm_op0 (he262 _ _ _ _ _ _ _ _ _ rfl rfl) rfl rfl ?_
                have hf265 : Fr (fun q => q = b33) H235 H261 := Fr.write H261n_ f264
                have H261n : H235.next ≤ H261.next := hf265.1
                try show aw _ _ _ _ _ _
                refine aw_seq ?_
                refine aw_seq ?_
                refine aw_marks (fun b => b < H261.next) [(false, false), (false, false), (false, false), (false, false), (false, false), (false, true), (false, false), (false, false), (false, false), (true, false), (true, false), (false, false), (false, false)] mixed (by kernel_rfl) (by kernel_rfl) ?_
                refine sm_op (ev_load rfl (lvar_part (l := [.bool false, .int .i64 0, .int .i64 0, .int .i64 x251, .int .i64 x255, .int .i64 x212, .string z244]) many27 hB263 rfl rfl (by decide))) rfl rfl rfl ?_
                refine sm_call rfl rfl rfl ent13 rfl rfl rfl ?_
                obtain ⟨_, H267, hs266, hs266v, hx268⟩ := ref17_May_spec H261 false (0 : Int) (0 : Int) x251 x255 x212 z244
                rw [hs266v] at hs266; clear hs266v
                refine ⟨_, H267, hs266, (fun _ b hb => hx268.2 b (by omega)), ?_⟩
                have H267n : H261.next ≤ H267.next := hx268.1
                refine sm_op (ev_not rfl) rfl rfl rfl ?_
                refine sm_op (ev_move rfl) rfl rfl rfl ?_
                refine sm_bool 111 rfl (fun hb269 => ?_) (fun hb269 => ?_)
                ·
                  replace hb269 : (Spec.mayF false (0 : Int) (0 : Int) x251 x255 x212 z244) = false := by rw [Bool.not_eq_true'] at hb269; exact hb269
                  refine sm_skip rfl rfl rfl ?_
                  refine sm_skip rfl rfl rfl ?_
                  refine sm_skip rfl rfl rfl ?_
                  refine sm_skip rfl rfl rfl ?_
                  refine sm_skip rfl rfl rfl ?_
                  refine sm_skip rfl rfl rfl ?_
                  refine sm_skip rfl rfl rfl ?_
                  refine sm_skip rfl rfl rfl ?_
                  refine sm_op (ev_pickT rfl rfl) rfl rfl rfl ?_
                  try show aw _ _ _ _ _ _
                  refine aw_cond (t := true) rfl ?_
                  try show aw _ _ _ _ _ _
                  refine aw_seq ?_
                  refine aw_reg ?_
                  refine st_op (ev_build zero27 pl27 (parts := []) rfl (cs := [.bool false, .int .i64 0, .int .i64 0, .int .i64 0, .int .i64 0, .int .i64 0, .string (⟨#[]⟩)]) rfl) rfl rfl rfl ?_
                  have hx271 : Ext H2 H267 := (Ext.trans (Ext.then (Ext.trans (Ext.trans (Ext.trans hx10 hx38) hx184) hx236) hf265 (fun q hq e => by omega)) hx268)
                  have h270 := Ext.blk hx271 (by omega) hB5
                  obtain ⟨H272, he273, H272n_, hB274, f275⟩ := mem_store (v := .agg #[.bool false, .int .i64 0, .int .i64 0, .int .i64 0, .int .i64 0, .int .i64 0, .string (⟨#[]⟩)]) (o := 0) (cs' := [.bool false, .int .i64 0, .int .i64 0, .int .i64 0, .int .i64 0, .int .i64 0, .string (⟨#[]⟩)]) 7 rfl rfl size27 h270 rfl rfl rfl
                  refine st_op0 (he273 _ _ _ _ _ _ _ _ _ rfl rfl) rfl rfl ?_
                  have hf276 : Fr (fun q => q = b1) H267 H272 := Fr.write H272n_ f275
                  have H272n : H267.next ≤ H272.next := hf276.1
                  refine st_op (ev_assign rfl) rfl rfl rfl ?_
                  refine st_op (ev_assign rfl) rfl rfl rfl ?_
                  try show aw _ _ _ _ _ _
                  refine aw_ret ?_
                  have hx277 : Ext H H272 := (Ext.then (Ext.trans (Ext.then (Ext.trans (Ext.trans (Ext.trans (Ext.trans hx6 hx10) hx38) hx184) hx236) hf265 (fun q hq e => by omega)) hx268) hf276 (fun q hq e => by omega))
                  have hres : (Spec.decF b) = (false, 0, 0, 0, 0, 0, (⟨#[]⟩ : ByteArray), 0, 3) := by exact ((Spec.decE_x bb hR20 (by omega) (by omega) hR197 hb201 hx252 hx256 hx213 hR243).2 (by omega)).1 hb269
                  exact ⟨.tuple #[.agg #[.bool false, .int .i64 0, .int .i64 0, .int .i64 0, .int .i64 0, .int .i64 0, .string (⟨#[]⟩)], .int .i64 0, .int .i64 3], (resA_of (resL_cell rfl (lvar_part (l := [.bool false, .int .i64 0, .int .i64 0, .int .i64 0, .int .i64 0, .int .i64 0, .string (⟨#[]⟩)]) many27 hB274 rfl rfl (by decide)) (resL_tmp rfl (resL_tmp rfl resL_nil))) rfl), by rw [hres], (by exact (Spec.decF_all bb).1), (by exact (Spec.decF_all bb).2.1), (by exact (Spec.decF_all bb).2.2), hx277⟩
                ·
                  replace hb269 : (Spec.mayF false (0 : Int) (0 : Int) x251 x255 x212 z244) = true := by rw [Bool.not_eq_false'] at hb269; exact hb269
                  have hb269m := Spec.may_says hb269
                  have h278 := Ext.blk hx268 (by omega) hB263
                  refine sm_op (ev_load rfl (lvar_part (l := [.bool false, .int .i64 0, .int .i64 0, .int .i64 x251, .int .i64 x255, .int .i64 x212, .string z244]) many27 h278 rfl rfl (by decide))) rfl rfl rfl ?_
                  refine sm_call rfl rfl rfl ent15 rfl rfl rfl ?_
                  obtain ⟨_, H280, hs279, A282, c283, hs279v, hm284, hq285, hx281⟩ := ref17_Encode_spec H267 false (0 : Int) (0 : Int) x251 x255 x212 z244
                  rw [hs279v] at hs279; clear hs279v
                  refine ⟨_, H280, hs279, (fun _ b hb => hx281.2 b (by omega)), ?_⟩
                  have H280n : H267.next ≤ H280.next := hx281.1
                  refine sm_op (ev_strOf (l := (Spec.encodeF false (0 : Int) (0 : Int) x251 x255 x212 z244)) (A := A282) (c := c283) slu8_30 isstr_9 rfl (My.anil hm284) (My.row hm284)) rfl rfl rfl ?_
                  refine sm_op (ev_move rfl) rfl rfl rfl ?_
                  refine sm_op (ev_move rfl) rfl rfl rfl ?_
                  have hx295 : Ext H2 H280 := (Ext.trans (Ext.trans (Ext.then (Ext.trans (Ext.trans (Ext.trans hx10 hx38) hx184) hx236) hf265 (fun q hq e => by omega)) hx268) hx281)
                  have h294 := Row.ext h7 hx295
                  obtain ⟨A286, c287, L288, hL289, hl290, hs291, hr292, hc293⟩ := sliceA_typed u8c el30 (by decide) h294 cb (lo := none) (hi := some (.int .i64 z23)) (l := 0) (h := (z23).toNat) (by rw [Option.isSome_some, if_pos rfl]; exact bound_int (by first | omega | (simp only [List.length_append, List.length_cons, List.length_nil, List.length_map, List.length_set, List.length_replicate, Spec.bytesOf_length]; omega) | (simp; omega)) (by first | omega | (simp only [List.length_append, List.length_cons, List.length_nil, List.length_map, List.length_set, List.length_replicate, Spec.bytesOf_length]; omega) | (simp; omega)) (by first | rfl | omega)) rfl (by first | omega | (simp only [List.length_append, List.length_cons, List.length_nil, List.length_map, List.length_set, List.length_replicate, Spec.bytesOf_length]; omega) | (simp; omega)) (by first | omega | (simp only [List.length_append, List.length_cons, List.length_nil, List.length_map, List.length_set, List.length_replicate, Spec.bytesOf_length]; omega) | (simp; omega))
                  refine sm_read (ev_slice rfl rfl rfl rfl hs291) rfl rfl rfl (fun q hq => Nat.lt_of_lt_of_le (rd_slice rfl rfl h7 hq) (by omega)) ?_
                  have hL289b : Spec.Bytes L288 := by rw [hL289]; exact Spec.Bytes.take (Spec.Bytes.drop (by first | assumption | exact Spec.Bytes.nil | exact Spec.bytes_of _ | (repeat' first | assumption | exact Spec.Bytes.nil | exact Spec.bytes_of _ | exact Spec.enc_bytes _ | exact Spec.four_bytes _ | exact Spec.sealF_bytes (by assumption) | apply Spec.Bytes.append | apply Spec.Bytes.cons (by omega) | apply Spec.Bytes.take | apply Spec.Bytes.drop)) _) _
                  refine sm_read (ev_strOf (l := L288) (A := A286) (c := c287) slu8_30 isstr_9 rfl (fun h => sliceA_none el30 (h ▸ hs291)) hr292) rfl rfl rfl (fun q hq => Nat.lt_of_lt_of_le (rd_conv2 rfl rfl el30 hs291 h7 (by first | omega | (simp only [List.length_append, List.length_cons, List.length_nil, List.length_map, List.length_set, List.length_replicate, Spec.bytesOf_length]; omega) | (simp; omega)) hq) (by omega)) ?_
                  refine sm_op (ev_str rfl rfl rfl) rfl rfl rfl ?_
                  refine sm_op (ev_pickF rfl rfl) rfl rfl rfl ?_
                  try show aw _ _ _ _ _ _
                  by_cases hc296 : (!(((strOfNums (Spec.encodeF false (0 : Int) (0 : Int) x251 x255 x212 z244))).toList == ((strOfNums L288)).toList)) = true
                  · refine aw_condT hc296 rfl ?_
                    try show aw _ _ _ _ _ _
                    replace hc296 : (((strOfNums (Spec.encodeF false (0 : Int) (0 : Int) x251 x255 x212 z244))).toList == ((strOfNums L288)).toList) = false := by rw [Bool.not_eq_true'] at hc296; exact hc296
                    have hc296 := ne_of_beq_false hc296
                    refine aw_seq ?_
                    refine aw_reg ?_
                    refine st_op (ev_build zero27 pl27 (parts := []) rfl (cs := [.bool false, .int .i64 0, .int .i64 0, .int .i64 0, .int .i64 0, .int .i64 0, .string (⟨#[]⟩)]) rfl) rfl rfl rfl ?_
                    have h297 := Ext.blk hx295 (by omega) hB5
                    obtain ⟨H298, he299, H298n_, hB300, f301⟩ := mem_store (v := .agg #[.bool false, .int .i64 0, .int .i64 0, .int .i64 0, .int .i64 0, .int .i64 0, .string (⟨#[]⟩)]) (o := 0) (cs' := [.bool false, .int .i64 0, .int .i64 0, .int .i64 0, .int .i64 0, .int .i64 0, .string (⟨#[]⟩)]) 7 rfl rfl size27 h297 rfl rfl rfl
                    refine st_op0 (he299 _ _ _ _ _ _ _ _ _ rfl rfl) rfl rfl ?_
                    have hf302 : Fr (fun q => q = b1) H280 H298 := Fr.write H298n_ f301
                    have H298n : H280.next ≤ H298.next := hf302.1
                    refine st_op (ev_assign rfl) rfl rfl rfl ?_
                    refine st_op (ev_assign rfl) rfl rfl rfl ?_
                    try show aw _ _ _ _ _ _
                    refine aw_ret ?_
                    have hx303 : Ext H H298 := (Ext.then (Ext.trans (Ext.trans (Ext.then (Ext.trans (Ext.trans (Ext.trans (Ext.trans hx6 hx10) hx38) hx184) hx236) hf265 (fun q hq e => by omega)) hx268) hx281) hf302 (fun q hq e => by omega))
                    have hres : (Spec.decF b) = (false, 0, 0, 0, 0, 0, (⟨#[]⟩ : ByteArray), 0, 3) := by exact (Spec.decE_e bb hR20 (by omega) (by omega) hR197 hb201 hx252 hx256 hx213 hR243 (by omega) hb269 hL289).2 hc296
                    exact ⟨.tuple #[.agg #[.bool false, .int .i64 0, .int .i64 0, .int .i64 0, .int .i64 0, .int .i64 0, .string (⟨#[]⟩)], .int .i64 0, .int .i64 3], (resA_of (resL_cell rfl (lvar_part (l := [.bool false, .int .i64 0, .int .i64 0, .int .i64 0, .int .i64 0, .int .i64 0, .string (⟨#[]⟩)]) many27 hB300 rfl rfl (by decide)) (resL_tmp rfl (resL_tmp rfl resL_nil))) rfl), by rw [hres], (by exact (Spec.decF_all bb).1), (by exact (Spec.decF_all bb).2.1), (by exact (Spec.decF_all bb).2.2), hx303⟩
                  · rw [Bool.not_eq_true] at hc296; refine aw_condF hc296 rfl ?_
                    try show aw _ _ _ _ _ _
                    replace hc296 : (((strOfNums (Spec.encodeF false (0 : Int) (0 : Int) x251 x255 x212 z244))).toList == ((strOfNums L288)).toList) = true := by rw [Bool.not_eq_false'] at hc296; exact hc296
                    have hc296 := eq_of_beq hc296
                    refine aw_skip ?_
                    try show aw _ _ _ _ _ _
                    refine aw_seq ?_
                    refine aw_reg ?_
                    have h304 := Ext.blk hx281 (by omega) h278
                    refine st_op (ev_load rfl (lvar_part (l := [.bool false, .int .i64 0, .int .i64 0, .int .i64 x251, .int .i64 x255, .int .i64 x212, .string z244]) many27 h304 rfl rfl (by decide))) rfl rfl rfl ?_
                    refine st_op (ev_move rfl) rfl rfl rfl ?_
                    have h305 := Ext.blk hx295 (by omega) hB5
                    obtain ⟨H306, he307, H306n_, hB308, f309⟩ := mem_store (v := .agg #[.bool false, .int .i64 0, .int .i64 0, .int .i64 x251, .int .i64 x255, .int .i64 x212, .string z244]) (o := 0) (cs' := [.bool false, .int .i64 0, .int .i64 0, .int .i64 x251, .int .i64 x255, .int .i64 x212, .string z244]) 7 rfl rfl size27 h305 rfl rfl rfl
                    refine st_op0 (he307 _ _ _ _ _ _ _ _ _ rfl rfl) rfl rfl ?_
                    have hf310 : Fr (fun q => q = b1) H280 H306 := Fr.write H306n_ f309
                    have H306n : H280.next ≤ H306.next := hf310.1
                    refine st_op (ev_assign rfl) rfl rfl rfl ?_
                    refine st_op (ev_assign rfl) rfl rfl rfl ?_
                    try show aw _ _ _ _ _ _
                    refine aw_ret ?_
                    have hx311 : Ext H H306 := (Ext.then (Ext.trans (Ext.trans (Ext.then (Ext.trans (Ext.trans (Ext.trans (Ext.trans hx6 hx10) hx38) hx184) hx236) hf265 (fun q hq e => by omega)) hx268) hx281) hf310 (fun q hq e => by omega))
                    have hres : (Spec.decF b) = (false, 0, 0, x251, x255, x212, z244, z23, 0) := by exact (Spec.decE_e bb hR20 (by omega) (by omega) hR197 hb201 hx252 hx256 hx213 hR243 (by omega) hb269 hL289).1 hc296
                    exact ⟨.tuple #[.agg #[.bool false, .int .i64 0, .int .i64 0, .int .i64 x251, .int .i64 x255, .int .i64 x212, .string z244], .int .i64 z23, .int .i64 0], (resA_of (resL_cell rfl (lvar_part (l := [.bool false, .int .i64 0, .int .i64 0, .int .i64 x251, .int .i64 x255, .int .i64 x212, .string z244]) many27 hB308 rfl rfl (by decide)) (resL_tmp rfl (resL_tmp rfl resL_nil))) rfl), by rw [hres], (by exact (Spec.decF_all bb).1), (by exact (Spec.decF_all bb).2.1), (by exact (Spec.decF_all bb).2.2), hx311⟩
              · rw [Bool.not_eq_true] at hc247; refine aw_condF hc247 rfl ?_
                try show aw _ _ _ _ _ _
                have hc247 := ne_of_beq_false hc247
                refine aw_skip ?_
                try show aw _ _ _ _ _ _
                refine aw_seq ?_
                refine aw_seq ?_
                refine aw_marks (fun b => b < H235.next) [(false, false), (false, false), (false, false), (false, false), (false, false), (false, true), (false, false), (false, false), (false, false), (true, false), (true, false), (false, false), (false, false)] mixed (by kernel_rfl) (by kernel_rfl) ?_
                have hx313 : Ext H34 H235 := (Ext.trans hx184 hx236)
                have h312 := Ext.blk hx313 (by omega) hB37
                refine sm_op (ev_load rfl (lvar_part (l := [.bool false, .int .i64 0, .int .i64 0, .int .i64 0, .int .i64 0, .int .i64 0, .string (⟨#[]⟩)]) many27 h312 rfl rfl (by decide))) rfl rfl rfl ?_
                refine sm_call rfl rfl rfl ent13 rfl rfl rfl ?_
                obtain ⟨_, H315, hs314, hs314v, hx316⟩ := ref17_May_spec H235 false (0 : Int) (0 : Int) (0 : Int) (0 : Int) (0 : Int) (⟨#[]⟩ : ByteArray)
                rw [hs314v] at hs314; clear hs314v
                refine ⟨_, H315, hs314, (fun _ b hb => hx316.2 b (by omega)), ?_⟩
                have H315n : H235.next ≤ H315.next := hx316.1
                refine sm_op (ev_not rfl) rfl rfl rfl ?_
                refine sm_op (ev_move rfl) rfl rfl rfl ?_
                refine sm_bool 111 rfl (fun hb317 => ?_) (fun hb317 => ?_)
                ·
                  replace hb317 : (Spec.mayF false (0 : Int) (0 : Int) (0 : Int) (0 : Int) (0 : Int) (⟨#[]⟩ : ByteArray)) = false := by rw [Bool.not_eq_true'] at hb317; exact hb317
                  refine sm_skip rfl rfl rfl ?_
                  refine sm_skip rfl rfl rfl ?_
                  refine sm_skip rfl rfl rfl ?_
                  refine sm_skip rfl rfl rfl ?_
                  refine sm_skip rfl rfl rfl ?_
                  refine sm_skip rfl rfl rfl ?_
                  refine sm_skip rfl rfl rfl ?_
                  refine sm_skip rfl rfl rfl ?_
                  refine sm_op (ev_pickT rfl rfl) rfl rfl rfl ?_
                  try show aw _ _ _ _ _ _
                  refine aw_cond (t := true) rfl ?_
                  try show aw _ _ _ _ _ _
                  refine aw_seq ?_
                  refine aw_reg ?_
                  refine st_op (ev_build zero27 pl27 (parts := []) rfl (cs := [.bool false, .int .i64 0, .int .i64 0, .int .i64 0, .int .i64 0, .int .i64 0, .string (⟨#[]⟩)]) rfl) rfl rfl rfl ?_
                  have hx319 : Ext H2 H315 := (Ext.trans (Ext.trans (Ext.trans (Ext.trans hx10 hx38) hx184) hx236) hx316)
                  have h318 := Ext.blk hx319 (by omega) hB5
                  obtain ⟨H320, he321, H320n_, hB322, f323⟩ := mem_store (v := .agg #[.bool false, .int .i64 0, .int .i64 0, .int .i64 0, .int .i64 0, .int .i64 0, .string (⟨#[]⟩)]) (o := 0) (cs' := [.bool false, .int .i64 0, .int .i64 0, .int .i64 0, .int .i64 0, .int .i64 0, .string (⟨#[]⟩)]) 7 rfl rfl size27 h318 rfl rfl rfl
                  refine st_op0 (he321 _ _ _ _ _ _ _ _ _ rfl rfl) rfl rfl ?_
                  have hf324 : Fr (fun q => q = b1) H315 H320 := Fr.write H320n_ f323
                  have H320n : H315.next ≤ H320.next := hf324.1
                  refine st_op (ev_assign rfl) rfl rfl rfl ?_
                  refine st_op (ev_assign rfl) rfl rfl rfl ?_
                  try show aw _ _ _ _ _ _
                  refine aw_ret ?_
                  have hx325 : Ext H H320 := (Ext.then (Ext.trans (Ext.trans (Ext.trans (Ext.trans (Ext.trans hx6 hx10) hx38) hx184) hx236) hx316) hf324 (fun q hq e => by omega))
                  have hres : (Spec.decF b) = (false, 0, 0, 0, 0, 0, (⟨#[]⟩ : ByteArray), 0, 3) := by exact Spec.decE_t bb hR20 (by omega) (by omega) hR197 hb201 hR243 (by omega)
                  exact ⟨.tuple #[.agg #[.bool false, .int .i64 0, .int .i64 0, .int .i64 0, .int .i64 0, .int .i64 0, .string (⟨#[]⟩)], .int .i64 0, .int .i64 3], (resA_of (resL_cell rfl (lvar_part (l := [.bool false, .int .i64 0, .int .i64 0, .int .i64 0, .int .i64 0, .int .i64 0, .string (⟨#[]⟩)]) many27 hB322 rfl rfl (by decide)) (resL_tmp rfl (resL_tmp rfl resL_nil))) rfl), by rw [hres], (by exact (Spec.decF_all bb).1), (by exact (Spec.decF_all bb).2.1), (by exact (Spec.decF_all bb).2.2), hx325⟩
                ·
                  replace hb317 : (Spec.mayF false (0 : Int) (0 : Int) (0 : Int) (0 : Int) (0 : Int) (⟨#[]⟩ : ByteArray)) = true := by rw [Bool.not_eq_false'] at hb317; exact hb317
                  have hb317m := Spec.may_says hb317
                  exfalso; rw [Spec.mayE_eq] at hb317; exact absurd (of_decide_eq_true hb317) (by omega)
      · rw [Bool.not_eq_true] at hc180; refine aw_condF hc180 rfl ?_
        try show aw _ _ _ _ _ _
        have hc180 := ne_of_beq_false hc180
        refine aw_skip ?_
        try show aw _ _ _ _ _ _
        refine aw_seq ?_
        refine aw_seq ?_
        refine aw_marks (fun b => b < H34.next) [(false, false), (false, false), (false, false), (false, false), (false, false), (false, true), (false, false), (false, false), (false, false), (true, false), (true, false), (false, false), (false, false)] mixed (by kernel_rfl) (by kernel_rfl) ?_
        refine sm_op (ev_load rfl (lvar_part (l := [.bool false, .int .i64 0, .int .i64 0, .int .i64 0, .int .i64 0, .int .i64 0, .string (⟨#[]⟩)]) many27 hB37 rfl rfl (by decide))) rfl rfl rfl ?_
        refine sm_call rfl rfl rfl ent13 rfl rfl rfl ?_
        obtain ⟨_, H327, hs326, hs326v, hx328⟩ := ref17_May_spec H34 false (0 : Int) (0 : Int) (0 : Int) (0 : Int) (0 : Int) (⟨#[]⟩ : ByteArray)
        rw [hs326v] at hs326; clear hs326v
        refine ⟨_, H327, hs326, (fun _ b hb => hx328.2 b (by omega)), ?_⟩
        have H327n : H34.next ≤ H327.next := hx328.1
        refine sm_op (ev_not rfl) rfl rfl rfl ?_
        refine sm_op (ev_move rfl) rfl rfl rfl ?_
        refine sm_bool 111 rfl (fun hb329 => ?_) (fun hb329 => ?_)
        ·
          replace hb329 : (Spec.mayF false (0 : Int) (0 : Int) (0 : Int) (0 : Int) (0 : Int) (⟨#[]⟩ : ByteArray)) = false := by rw [Bool.not_eq_true'] at hb329; exact hb329
          refine sm_skip rfl rfl rfl ?_
          refine sm_skip rfl rfl rfl ?_
          refine sm_skip rfl rfl rfl ?_
          refine sm_skip rfl rfl rfl ?_
          refine sm_skip rfl rfl rfl ?_
          refine sm_skip rfl rfl rfl ?_
          refine sm_skip rfl rfl rfl ?_
          refine sm_skip rfl rfl rfl ?_
          refine sm_op (ev_pickT rfl rfl) rfl rfl rfl ?_
          try show aw _ _ _ _ _ _
          refine aw_cond (t := true) rfl ?_
          try show aw _ _ _ _ _ _
          refine aw_seq ?_
          refine aw_reg ?_
          refine st_op (ev_build zero27 pl27 (parts := []) rfl (cs := [.bool false, .int .i64 0, .int .i64 0, .int .i64 0, .int .i64 0, .int .i64 0, .string (⟨#[]⟩)]) rfl) rfl rfl rfl ?_
          have hx331 : Ext H2 H327 := (Ext.trans (Ext.trans hx10 hx38) hx328)
          have h330 := Ext.blk hx331 (by omega) hB5
          obtain ⟨H332, he333, H332n_, hB334, f335⟩ := mem_store (v := .agg #[.bool false, .int .i64 0, .int .i64 0, .int .i64 0, .int .i64 0, .int .i64 0, .string (⟨#[]⟩)]) (o := 0) (cs' := [.bool false, .int .i64 0, .int .i64 0, .int .i64 0, .int .i64 0, .int .i64 0, .string (⟨#[]⟩)]) 7 rfl rfl size27 h330 rfl rfl rfl
          refine st_op0 (he333 _ _ _ _ _ _ _ _ _ rfl rfl) rfl rfl ?_
          have hf336 : Fr (fun q => q = b1) H327 H332 := Fr.write H332n_ f335
          have H332n : H327.next ≤ H332.next := hf336.1
          refine st_op (ev_assign rfl) rfl rfl rfl ?_
          refine st_op (ev_assign rfl) rfl rfl rfl ?_
          try show aw _ _ _ _ _ _
          refine aw_ret ?_
          have hx337 : Ext H H332 := (Ext.then (Ext.trans (Ext.trans (Ext.trans hx6 hx10) hx38) hx328) hf336 (fun q hq e => by omega))
          have hres : (Spec.decF b) = (false, 0, 0, 0, 0, 0, (⟨#[]⟩ : ByteArray), 0, 3) := by first | exact Spec.dec_err hR20 (by omega) | exact Spec.dec_kind hR20 (by omega) (by omega) (by omega)
          exact ⟨.tuple #[.agg #[.bool false, .int .i64 0, .int .i64 0, .int .i64 0, .int .i64 0, .int .i64 0, .string (⟨#[]⟩)], .int .i64 0, .int .i64 3], (resA_of (resL_cell rfl (lvar_part (l := [.bool false, .int .i64 0, .int .i64 0, .int .i64 0, .int .i64 0, .int .i64 0, .string (⟨#[]⟩)]) many27 hB334 rfl rfl (by decide)) (resL_tmp rfl (resL_tmp rfl resL_nil))) rfl), by rw [hres], (by exact (Spec.decF_all bb).1), (by exact (Spec.decF_all bb).2.1), (by exact (Spec.decF_all bb).2.2), hx337⟩
        ·
          replace hb329 : (Spec.mayF false (0 : Int) (0 : Int) (0 : Int) (0 : Int) (0 : Int) (⟨#[]⟩ : ByteArray)) = true := by rw [Bool.not_eq_false'] at hb329; exact hb329
          have hb329m := Spec.may_says hb329
          exfalso; rw [Spec.mayE_eq] at hb329; exact absurd (of_decide_eq_true hb329) (by omega)
theorem ref17_Scan_spec (H : Heap) (bA : Option Addr) (b : List Int) (bc : Nat) (hb : Row H bA bc 1 (b.map u8c)) (cb : b.length ≤ bc) (lb : b.length ≤ 1073741824) (bb : Spec.Bytes b) : ∃ v H', Spec Try.prog 21 [.slice bA b.length bc] H v H' ∧ (∃ rA0 rc0, (v = .tuple #[.slice rA0 (((Spec.scanW b).1).length) rc0, .int .i64 ((Spec.scanW b).2.1), .bool ((Spec.scanW b).2.2)]) ∧ (My H H' rA0 rc0 7 (((Spec.scanW b).1).map Rec.cells)) ∧ ((Spec.scanW b).1.length ≤ b.length) ∧ (Ext H H')) := by
  refine spec_go1 E0_ok 37 (f := 21) Try.func21 rfl rfl rfl ?_
  refine aw_seq ?_
  refine aw_reg ?_
  refine st_op (ev_assign rfl) rfl rfl rfl ?_
  refine st_op (ev_assign rfl) rfl rfl rfl ?_
  refine st_op (ev_assign rfl) rfl rfl rfl ?_
  try show aw _ _ _ _ _ _
  refine aw_seq ?_
  refine aw_reg ?_
  refine st_op (ev_assign rfl) rfl rfl rfl ?_
  try show aw _ _ _ _ _ _
  refine aw_seq ?_
  refine aw_reg ?_
  refine st_op (ev_assign rfl) rfl rfl rfl ?_
  try show aw _ _ _ _ _ _
  refine aw_seq ?_
  refine aw_block ?_
  have hm3 : My H H none 0 7 (([] : List Rec).map Rec.cells) := .nil
  refine aw_keep [0, 5, 6] (l' := (.cons 0 (.slice bA b.length bc) (.cons 5 (.slice none 0 0) (.cons 6 (.int .i64 0) .nil)))) (by repeat (first | exact Up.done | refine Up.then ?_ | refine Up.inBlock ?_)) rfl ?_
  refine aw_iter (α := Int × Option Addr × Nat × List Rec × Nat × Heap) (fun a => b.length - a.2.2.2.2.1) (fun a => (.cons 0 (.slice bA b.length bc) (.cons 5 (.slice a.2.1 a.2.2.2.1.length a.2.2.1) (.cons 6 (.int .i64 a.1) .nil)))) (fun a => a.2.2.2.2.2) (fun a => (a.1 = (a.2.2.2.2.1 : Int)) ∧ (a.2.2.2.2.1 ≤ b.length) ∧ (a.2.2.2.1.length ≤ a.2.2.2.2.1) ∧ (Spec.scanW b = (a.2.2.2.1 ++ (Spec.scanW (b.drop a.2.2.2.2.1)).1, (a.2.2.2.2.1 : Int) + (Spec.scanW (b.drop a.2.2.2.2.1)).2.1, (Spec.scanW (b.drop a.2.2.2.2.1)).2.2)) ∧ (0 ≤ a.1 ∧ a.1 ≤ 1073741824) ∧ (My H a.2.2.2.2.2 a.2.1 a.2.2.1 7 (a.2.2.2.1.map Rec.cells)) ∧ (Ext H a.2.2.2.2.2)) ((0 : Int), none, 0, ([] : List Rec), 0, H) ⟨(show (0 : Int) = (0 : Int) from rfl), (show 0 ≤ b.length from Nat.zero_le _), (show ([] : List Rec).length ≤ 0 from Nat.le_refl _), (show Spec.scanW b = (([] : List Rec) ++ (Spec.scanW (b.drop 0)).1, (0 : Int) + (Spec.scanW (b.drop 0)).2.1, (Spec.scanW (b.drop 0)).2.2) from (by simp)), (show 0 ≤ (0 : Int) ∧ (0 : Int) ≤ 1073741824 from ⟨by omega, by omega⟩), (show My H H none 0 7 (([] : List Rec).map Rec.cells) from hm3), (show Ext H H from (Ext.refl H))⟩ ?_
  rintro ⟨at_, A, cp, l, p, Hl1⟩ ⟨hp, hpl, hll, hS, hn2, hm4, hxl5⟩ ih6
  replace hp : at_ = (p : Int) := hp
  replace hpl : p ≤ b.length := hpl
  replace hll : l.length ≤ p := hll
  replace hS : Spec.scanW b = (l ++ (Spec.scanW (b.drop p)).1, (p : Int) + (Spec.scanW (b.drop p)).2.1, (Spec.scanW (b.drop p)).2.2) := hS
  replace hn2 : 0 ≤ at_ ∧ at_ ≤ 1073741824 := hn2
  replace hm4 : My H Hl1 A cp 7 (l.map Rec.cells) := hm4
  replace hxl5 : Ext H Hl1 := hxl5
  show aw _ _ _ (RL _ (.cons 0 (.slice bA b.length bc) (.cons 5 (.slice A l.length cp) (.cons 6 (.int .i64 at_) .nil)))) Hl1 _
  have Hl1n : H.next ≤ Hl1.next := hxl5.1
  refine aw_seq ?_
  refine aw_seq ?_
  refine aw_reg ?_
  refine st_op (ev_move rfl) rfl rfl rfl ?_
  refine st_op (ev_move rfl) rfl rfl rfl ?_
  refine st_op (ev_lenSl rfl Try.underlying30) rfl rfl rfl ?_
  refine st_op (ev_int rfl rfl rfl) rfl rfl rfl ?_
  try show aw _ _ _ _ _ _
  by_cases hc7 : (decide (at_ < (b.length : Int))) = true
  · refine aw_condT hc7 rfl ?_
    try show aw _ _ _ _ _ _
    have hc7 := of_decide_eq_true hc7
    refine aw_skip ?_
    try show aw _ _ _ _ _ _
    refine aw_block ?_
    refine aw_seq ?_
    refine aw_reg ?_
    refine st_op (ev_move rfl) rfl rfl rfl ?_
    refine st_op (ev_move rfl) rfl rfl rfl ?_
    have h16 := Row.ext hb hxl5
    obtain ⟨A8, c9, L10, hL11, hl12, hs13, hr14, hc15⟩ := sliceA_typed u8c el30 (by decide) h16 cb (lo := some (.int .i64 at_)) (hi := none) (l := (at_).toNat) (h := b.length) rfl (bound_int (by first | omega | (simp only [List.length_append, List.length_cons, List.length_nil, List.length_map, List.length_set, List.length_replicate, Spec.bytesOf_length]; omega) | (simp; omega)) (by first | omega | (simp only [List.length_append, List.length_cons, List.length_nil, List.length_map, List.length_set, List.length_replicate, Spec.bytesOf_length]; omega) | (simp; omega)) (by first | rfl | omega)) (by first | omega | (simp only [List.length_append, List.length_cons, List.length_nil, List.length_map, List.length_set, List.length_replicate, Spec.bytesOf_length]; omega) | (simp; omega)) (by first | omega | (simp only [List.length_append, List.length_cons, List.length_nil, List.length_map, List.length_set, List.length_replicate, Spec.bytesOf_length]; omega) | (simp; omega))
    refine st_op (ev_slice rfl rfl rfl rfl hs13) rfl rfl rfl ?_
    have hL11b : Spec.Bytes L10 := by rw [hL11]; exact Spec.Bytes.take (Spec.Bytes.drop (by first | assumption | exact Spec.Bytes.nil | exact Spec.bytes_of _ | (repeat' first | assumption | exact Spec.Bytes.nil | exact Spec.bytes_of _ | exact Spec.enc_bytes _ | exact Spec.four_bytes _ | exact Spec.sealF_bytes (by assumption) | apply Spec.Bytes.append | apply Spec.Bytes.cons (by omega) | apply Spec.Bytes.take | apply Spec.Bytes.drop)) _) _
    refine st_call rfl rfl rfl ent22 rfl rfl rfl ?_
    obtain ⟨_, H18, hs17, hs17v, hq20, hq21, hq22, hx19⟩ := ref17_Decode_spec Hl1 A8 L10 c9 hr14 hc15 (by first | omega | (simp only [List.length_append, List.length_cons, List.length_nil, List.length_map, List.length_set, List.length_replicate, Spec.bytesOf_length]; omega) | (simp; omega)) (by first | assumption | exact Spec.Bytes.nil | exact Spec.bytes_of _ | (repeat' first | assumption | exact Spec.Bytes.nil | exact Spec.bytes_of _ | exact Spec.enc_bytes _ | exact Spec.four_bytes _ | exact Spec.sealF_bytes (by assumption) | apply Spec.Bytes.append | apply Spec.Bytes.cons (by omega) | apply Spec.Bytes.take | apply Spec.Bytes.drop))
    rw [hs17v] at hs17; clear hs17v
    generalize hR24 : (Spec.decF L10) = r23 at hs17 hq20 hq21 hq22
    obtain ⟨z25, z26, z27, z28, z29, z30, z31, z32, z33⟩ := r23
    dsimp only at hs17 hq20 hq21 hq22
    refine ⟨_, H18, hs17, ?_⟩
    have H18n : Hl1.next ≤ H18.next := hx19.1
    refine st_op (ev_move rfl) rfl rfl rfl ?_
    refine st_op (ev_extract rfl rfl) rfl rfl rfl ?_
    refine st_op (ev_extract rfl rfl) rfl rfl rfl ?_
    refine st_op (ev_extract rfl rfl) rfl rfl rfl ?_
    obtain ⟨b34, H35, he36, b34e, H35n_, hB38, f37⟩ := mem_alloc H18 zero27
    refine st_op (he36 _ _ _ _ _ _ _) rfl rfl rfl ?_
    have hx39 : Ext H18 H35 := Ext.new (by omega) H35n_ f37
    have H35n : H18.next ≤ H35.next := hx39.1
    obtain ⟨H40, he41, H40n_, hB42, f43⟩ := mem_store (v := .agg #[.bool z25, .int .i64 z26, .int .i64 z27, .int .i64 z28, .int .i64 z29, .int .i64 z30, .string z31]) (o := 0) (cs' := [.bool z25, .int .i64 z26, .int .i64 z27, .int .i64 z28, .int .i64 z29, .int .i64 z30, .string z31]) 7 rfl rfl size27 hB38 rfl rfl rfl
    refine st_op0 (he41 _ _ _ _ _ _ _ _ _ rfl rfl) rfl rfl ?_
    have hf44 : Fr (fun q => q = b34) H35 H40 := Fr.write H40n_ f43
    have H40n : H35.next ≤ H40.next := hf44.1
    refine st_op (ev_assign rfl) rfl rfl rfl ?_
    refine st_op (ev_assign rfl) rfl rfl rfl ?_
    try show aw _ _ _ _ _ _
    refine aw_seq ?_
    refine aw_seq ?_
    refine aw_reg ?_
    refine st_op (ev_move rfl) rfl rfl rfl ?_
    refine st_op (ev_int rfl rfl rfl) rfl rfl rfl ?_
    try show aw _ _ _ _ _ _
    by_cases hc45 : (z33 != 0) = true
    · refine aw_condT hc45 rfl ?_
      try show aw _ _ _ _ _ _
      have hc45 : ¬ (z33 = 0) := by simpa using hc45
      refine aw_seq ?_
      refine aw_reg ?_
      refine st_op (ev_move rfl) rfl rfl rfl ?_
      refine st_op (ev_move rfl) rfl rfl rfl ?_
      refine st_op (ev_move rfl) rfl rfl rfl ?_
      refine st_op (ev_int rfl rfl rfl) rfl rfl rfl ?_
      refine st_op (ev_assign rfl) rfl rfl rfl ?_
      refine st_op (ev_assign rfl) rfl rfl rfl ?_
      refine st_op (ev_assign rfl) rfl rfl rfl ?_
      try show aw _ _ _ _ _ _
      refine aw_ret ?_
      have hx47 : Ext Hl1 H40 := (Ext.then (Ext.trans hx19 hx39) hf44 (fun q hq e => by omega))
      have h46 := My.ext hm4 hx47
      have hx48 : Ext H H40 := (Ext.then (Ext.trans (Ext.trans hxl5 hx19) hx39) hf44 (fun q hq e => by omega))
      have hres : (Spec.scanW b) = (l, at_, (z33 == 2)) := by rw [hS, Spec.scanW_bad (l := b.drop p) (by intro h; rw [List.drop_eq_nil_iff] at h; omega) ((congrArg Spec.decF (Spec.drop_at hp hL11).symm).trans hR24) (by omega)]; simp [hp]
      exact ⟨.tuple #[.slice A l.length cp, .int .i64 at_, .bool (z33 == 2)], rfl, A, cp, by rw [hres]; first | done | rfl | simp, (by rw [hres]; exact h46), (by rw [hres]; exact Nat.le_trans hll hpl), hx48⟩
    · rw [Bool.not_eq_true] at hc45; refine aw_condF hc45 rfl ?_
      try show aw _ _ _ _ _ _
      have hc45 : (z33 = 0) := by simpa using hc45
      refine aw_skip ?_
      try show aw _ _ _ _ _ _
      refine aw_seq ?_
      refine aw_reg ?_
      refine st_op (ev_move rfl) rfl rfl rfl ?_
      refine st_op (ev_load rfl (lvar_part (l := [.bool z25, .int .i64 z26, .int .i64 z27, .int .i64 z28, .int .i64 z29, .int .i64 z30, .string z31]) many27 hB42 rfl rfl (by decide))) rfl rfl rfl ?_
      obtain ⟨b49, H50, he51, b49e, H50n_, hm53, f52⟩ := mem_lit H40 (xs := [.agg #[.bool z25, .int .i64 z26, .int .i64 z27, .int .i64 z28, .int .i64 z29, .int .i64 z30, .string z31]]) (m := 1) (rows := [[.bool z25, .int .i64 z26, .int .i64 z27, .int .i64 z28, .int .i64 z29, .int .i64 z30, .string z31]]) rfl eok43 (by decide) (by decide) zf27 rfl (allLen rfl) rfl
      replace hm53 : My H40 H50 (some ⟨b49, 0, none⟩) 1 7 ([(⟨z25, (⟨z26, z27⟩ : Hard), (⟨z28, z29, z30, z31⟩ : Entry)⟩ : Rec)].map Rec.cells) := hm53
      refine st_op (he51 _ _ _ _ _ _ _ _ rfl) rfl rfl rfl ?_
      have hx54 : Ext H40 H50 := Ext.new (by omega) H50n_ f52
      have H50n : H40.next ≤ H50.next := hx54.1
      have hx56 : Ext Hl1 H50 := (Ext.trans (Ext.then (Ext.trans hx19 hx39) hf44 (fun q hq e => by omega)) hx54)
      have h55 := My.ext hm4 hx56
      obtain ⟨A57, c58, H59, W60, he61, hm62, hf63⟩ := mem_append (f := Rec.cells) (old := l) (new := [(⟨z25, (⟨z26, z27⟩ : Hard), (⟨z28, z29, z30, z31⟩ : Entry)⟩ : Rec)]) (m := l.length) (mx := 1) (c := cp) (by first | rfl | simp) (by first | rfl | simp) eok43 (by decide) hm4 h55 (by omega) (((My.row hm53)).srcF (by decide) (by first | rfl | simp)) rfl Rec.cells_len Rec.cells_one (by first | omega | (simp only [List.length_append, List.length_cons, List.length_nil, List.length_map, List.length_set, List.length_replicate, Spec.bytesOf_length]; omega) | (simp; omega)) (by first | omega | (simp only [List.length_append, List.length_cons, List.length_nil, List.length_map, List.length_set, List.length_replicate, Spec.bytesOf_length]; omega) | (simp; omega))
      refine st_op (he61 _ _ _ _ _ _ _ _ _ _ rfl rfl isrow43) rfl rfl rfl ?_
      have H59n : H50.next ≤ H59.next := hf63.1
      refine st_op (ev_assign rfl) rfl rfl rfl ?_
      try show aw _ _ _ _ _ _
      refine aw_reg ?_
      refine st_op (ev_move rfl) rfl rfl rfl ?_
      refine st_op (ev_move rfl) rfl rfl rfl ?_
      refine st_op (ev_int64 (c := at_ + z32) rfl rfl rfl (by omega) (by omega)) rfl rfl rfl ?_
      refine st_op (ev_assign rfl) rfl rfl rfl ?_
      try show aw _ _ _ _ _ _
      have hx64 : Ext H H59 := (Ext.then (Ext.trans (Ext.then (Ext.trans (Ext.trans hxl5 hx19) hx39) hf44 (fun q hq e => by omega)) hx54) hf63 (fun q hq e => by omega))
      refine aw_keep [0, 5, 6] (l' := (.cons 0 (.slice bA b.length bc) (.cons 5 (.slice A57 ((l ++ [(⟨z25, (⟨z26, z27⟩ : Hard), (⟨z28, z29, z30, z31⟩ : Entry)⟩ : Rec)]).length) c58) (.cons 6 (.int .i64 (at_ + z32)) .nil)))) (by repeat (first | exact Up.done | refine Up.then ?_ | refine Up.inBlock ?_)) rfl ?_
      exact ih6 (at_ + z32, A57, c58, (l ++ [(⟨z25, (⟨z26, z27⟩ : Hard), (⟨z28, z29, z30, z31⟩ : Entry)⟩ : Rec)]), (p + z32.toNat), H59) ⟨(show (at_ + z32) = ((p + z32.toNat) : Int) from (by omega)), (show (p + z32.toNat) ≤ b.length from (by omega)), (show (l ++ [(⟨z25, (⟨z26, z27⟩ : Hard), (⟨z28, z29, z30, z31⟩ : Entry)⟩ : Rec)]).length ≤ (p + z32.toNat) from (by rw [List.length_append, List.length_singleton]; omega)), (show Spec.scanW b = ((l ++ [(⟨z25, (⟨z26, z27⟩ : Hard), (⟨z28, z29, z30, z31⟩ : Entry)⟩ : Rec)]) ++ (Spec.scanW (b.drop (p + z32.toNat))).1, ((p + z32.toNat) : Int) + (Spec.scanW (b.drop (p + z32.toNat))).2.1, (Spec.scanW (b.drop (p + z32.toNat))).2.2) from (by rw [hS, Spec.scanW_step (l := b.drop p) (by intro h; rw [List.drop_eq_nil_iff] at h; omega) ((congrArg Spec.decF (Spec.drop_at hp hL11).symm).trans hR24) (by omega) (by omega), List.drop_drop]; simp [List.append_assoc, Int.add_assoc, show ((z32.toNat : Nat) : Int) = z32 by omega])), (show 0 ≤ (at_ + z32) ∧ (at_ + z32) ≤ 1073741824 from ⟨by omega, by omega⟩), (show My H H59 A57 c58 7 ((l ++ [(⟨z25, (⟨z26, z27⟩ : Hard), (⟨z28, z29, z30, z31⟩ : Entry)⟩ : Rec)]).map Rec.cells) from hm62), (show Ext H H59 from hx64)⟩ (by simp only; omega)
  · rw [Bool.not_eq_true] at hc7; refine aw_condF hc7 rfl ?_
    try show aw _ _ _ _ _ _
    have hc7 := of_decide_eq_false hc7
    refine aw_exit ?_
    try show aw _ _ _ _ _ _
    refine aw_seq ?_
    refine aw_reg ?_
    refine st_op (ev_move rfl) rfl rfl rfl ?_
    refine st_op (ev_move rfl) rfl rfl rfl ?_
    refine st_op (ev_assign rfl) rfl rfl rfl ?_
    refine st_op (ev_assign rfl) rfl rfl rfl ?_
    refine st_op (ev_assign rfl) rfl rfl rfl ?_
    try show aw _ _ _ _ _ _
    refine aw_ret ?_
    have hres : (Spec.scanW b) = (l, at_, true) := by rw [hS, List.drop_eq_nil_of_le (by omega), Spec.scanW_nil]; simp [hp]
    exact ⟨.tuple #[.slice A l.length cp, .int .i64 at_, .bool true], rfl, A, cp, by rw [hres]; first | done | rfl | simp, (by rw [hres]; exact hm4), (by rw [hres]; exact Nat.le_trans hll hpl), hxl5⟩
set_option maxHeartbeats 1000000 in
theorem law18_back_spec (H : Heap) (r_hard : Bool) (r_h_term : Int) (r_h_vote : Int) (r_e_index : Int) (r_e_term : Int) (r_e_kind : Int) (r_e_data : ByteArray) : ∃ v H', Spec Try.prog 18 [.agg #[.bool r_hard, .int .i64 r_h_term, .int .i64 r_h_vote, .int .i64 r_e_index, .int .i64 r_e_term, .int .i64 r_e_kind, .string r_e_data]] H v H' ∧ ((v = .agg #[.bool r_hard, .int .i64 r_h_term, .int .i64 r_h_vote, .int .i64 r_e_index, .int .i64 r_e_term, .int .i64 r_e_kind, .string r_e_data]) ∧ (Ext H H')) := by
  refine spec_go1 E0_ok 10 (f := 18) Try.func18 rfl rfl rfl ?_
  refine aw_seq ?_
  refine aw_reg ?_
  obtain ⟨b1, H2, he3, b1e, H2n_, hB5, f4⟩ := mem_box (P := Try.prog) H (v := .agg #[.bool r_hard, .int .i64 r_h_term, .int .i64 r_h_vote, .int .i64 r_e_index, .int .i64 r_e_term, .int .i64 r_e_kind, .string r_e_data]) (cs := [.bool r_hard, .int .i64 r_h_term, .int .i64 r_h_vote, .int .i64 r_e_index, .int .i64 r_e_term, .int .i64 r_e_kind, .string r_e_data]) rfl rfl
  refine st_op (he3 _ _ _ _ _ _ _ _ _ rfl) rfl rfl rfl ?_
  have hx6 : Ext H H2 := Ext.new (by omega) H2n_ f4
  have H2n : H.next ≤ H2.next := hx6.1
  obtain ⟨b7, H8, he9, b7e, H8n_, hB11, f10⟩ := mem_alloc H2 zero27
  refine st_op (he9 _ _ _ _ _ _ _) rfl rfl rfl ?_
  have hx12 : Ext H2 H8 := Ext.new (by omega) H8n_ f10
  have H8n : H2.next ≤ H8.next := hx12.1
  try show aw _ _ _ _ _ _
  refine aw_seq ?_
  refine aw_reg ?_
  refine st_op (ev_fieldAddr rfl fa32_0 (o' := 0) rfl) rfl rfl rfl ?_
  have h13 := Ext.blk hx12 (by omega) hB5
  refine st_op (ev_load rfl (lvar_one one4 h13 rfl)) rfl rfl rfl ?_
  refine st_op (ev_fieldAddr rfl fa32_1 (o' := 1) rfl) rfl rfl rfl ?_
  refine st_op (ev_load rfl (lvar_part (l := [.int .i64 r_h_term, .int .i64 r_h_vote]) many23 h13 rfl rfl (by decide))) rfl rfl rfl ?_
  refine st_op (ev_fieldAddr rfl fa32_2 (o' := 3) rfl) rfl rfl rfl ?_
  refine st_op (ev_load rfl (lvar_part (l := [.int .i64 r_e_index, .int .i64 r_e_term, .int .i64 r_e_kind, .string r_e_data]) many25 h13 rfl rfl (by decide))) rfl rfl rfl ?_
  refine st_op (ev_build zero27 pl27 (parts := [(0, .bool r_hard), (1, .agg #[.int .i64 r_h_term, .int .i64 r_h_vote]), (2, .agg #[.int .i64 r_e_index, .int .i64 r_e_term, .int .i64 r_e_kind, .string r_e_data])]) rfl (cs := [.bool r_hard, .int .i64 r_h_term, .int .i64 r_h_vote, .int .i64 r_e_index, .int .i64 r_e_term, .int .i64 r_e_kind, .string r_e_data]) rfl) rfl rfl rfl ?_
  obtain ⟨H14, he15, H14n_, hB16, f17⟩ := mem_store (v := .agg #[.bool r_hard, .int .i64 r_h_term, .int .i64 r_h_vote, .int .i64 r_e_index, .int .i64 r_e_term, .int .i64 r_e_kind, .string r_e_data]) (o := 0) (cs' := [.bool r_hard, .int .i64 r_h_term, .int .i64 r_h_vote, .int .i64 r_e_index, .int .i64 r_e_term, .int .i64 r_e_kind, .string r_e_data]) 7 rfl rfl size27 hB11 rfl rfl rfl
  refine st_op0 (he15 _ _ _ _ _ _ _ _ _ rfl rfl) rfl rfl ?_
  have hf18 : Fr (fun q => q = b7) H8 H14 := Fr.write H14n_ f17
  have H14n : H8.next ≤ H14.next := hf18.1
  try show aw _ _ _ _ _ _
  refine aw_ret ?_
  have hx19 : Ext H H14 := (Ext.then (Ext.trans hx6 hx12) hf18 (fun q hq e => by omega))
  exact ⟨.agg #[.bool r_hard, .int .i64 r_h_term, .int .i64 r_h_vote, .int .i64 r_e_index, .int .i64 r_e_term, .int .i64 r_e_kind, .string r_e_data], (resA_of (resL_cell rfl (lvar_part (l := [.bool r_hard, .int .i64 r_h_term, .int .i64 r_h_vote, .int .i64 r_e_index, .int .i64 r_e_term, .int .i64 r_e_kind, .string r_e_data]) many27 hB16 rfl rfl (by decide)) resL_nil) rfl), rfl, hx19⟩
theorem ref17_Eq_spec (H : Heap) (a_hard : Bool) (a_h_term : Int) (a_h_vote : Int) (a_e_index : Int) (a_e_term : Int) (a_e_kind : Int) (a_e_data : ByteArray) (b_hard : Bool) (b_h_term : Int) (b_h_vote : Int) (b_e_index : Int) (b_e_term : Int) (b_e_kind : Int) (b_e_data : ByteArray) : ∃ v H', Spec Try.prog 17 [.agg #[.bool a_hard, .int .i64 a_h_term, .int .i64 a_h_vote, .int .i64 a_e_index, .int .i64 a_e_term, .int .i64 a_e_kind, .string a_e_data], .agg #[.bool b_hard, .int .i64 b_h_term, .int .i64 b_h_vote, .int .i64 b_e_index, .int .i64 b_e_term, .int .i64 b_e_kind, .string b_e_data]] H v H' ∧ ((v = .bool (decide (a_hard = b_hard ∧ a_h_term = b_h_term ∧ a_h_vote = b_h_vote ∧ a_e_index = b_e_index ∧ a_e_term = b_e_term ∧ a_e_kind = b_e_kind ∧ a_e_data = b_e_data))) ∧ (Ext H H')) := by
  refine spec_go2 E0_ok 35 (f := 17) Try.func17 rfl rfl rfl ?_
  refine aw_seq ?_
  refine aw_reg ?_
  obtain ⟨b1, H2, he3, b1e, H2n_, hB5, f4⟩ := mem_box (P := Try.prog) H (v := .agg #[.bool a_hard, .int .i64 a_h_term, .int .i64 a_h_vote, .int .i64 a_e_index, .int .i64 a_e_term, .int .i64 a_e_kind, .string a_e_data]) (cs := [.bool a_hard, .int .i64 a_h_term, .int .i64 a_h_vote, .int .i64 a_e_index, .int .i64 a_e_term, .int .i64 a_e_kind, .string a_e_data]) rfl rfl
  refine st_op (he3 _ _ _ _ _ _ _ _ _ rfl) rfl rfl rfl ?_
  have hx6 : Ext H H2 := Ext.new (by omega) H2n_ f4
  have H2n : H.next ≤ H2.next := hx6.1
  obtain ⟨b7, H8, he9, b7e, H8n_, hB11, f10⟩ := mem_box (P := Try.prog) H2 (v := .agg #[.bool b_hard, .int .i64 b_h_term, .int .i64 b_h_vote, .int .i64 b_e_index, .int .i64 b_e_term, .int .i64 b_e_kind, .string b_e_data]) (cs := [.bool b_hard, .int .i64 b_h_term, .int .i64 b_h_vote, .int .i64 b_e_index, .int .i64 b_e_term, .int .i64 b_e_kind, .string b_e_data]) rfl rfl
  refine st_op (he9 _ _ _ _ _ _ _ _ _ rfl) rfl rfl rfl ?_
  have hx12 : Ext H2 H8 := Ext.new (by omega) H8n_ f10
  have H8n : H2.next ≤ H8.next := hx12.1
  refine st_op (ev_assign rfl) rfl rfl rfl ?_
  try show aw _ _ _ _ _ _
  refine aw_seq ?_
  refine aw_reg ?_
  refine st_op (ev_fieldAddr rfl fa27_0 (o' := 0) rfl) rfl rfl rfl ?_
  have h13 := Ext.blk hx12 (by omega) hB5
  refine st_op (ev_load rfl (lvar_one one4 h13 rfl)) rfl rfl rfl ?_
  refine st_op (ev_fieldAddr rfl fa27_0 (o' := 0) rfl) rfl rfl rfl ?_
  refine st_op (ev_load rfl (lvar_one one4 hB11 rfl)) rfl rfl rfl ?_
  refine st_op (ev_eqBool isbool4 rfl rfl) rfl rfl rfl ?_
  refine st_op (ev_move rfl) rfl rfl rfl ?_
  refine st_bool 10 rfl (fun hb14 => ?_) (fun hb14 => ?_)
  ·
    have hb14 := eq_of_beq hb14
    refine st_op (ev_fieldAddr rfl fa27_1 (o' := 1) rfl) rfl rfl rfl ?_
    refine st_op (ev_fieldAddr rfl fa23_0 (o' := 1) rfl) rfl rfl rfl ?_
    refine st_op (ev_load rfl (lvar_one one2 h13 rfl)) rfl rfl rfl ?_
    refine st_op (ev_fieldAddr rfl fa27_1 (o' := 1) rfl) rfl rfl rfl ?_
    refine st_op (ev_fieldAddr rfl fa23_0 (o' := 1) rfl) rfl rfl rfl ?_
    refine st_op (ev_load rfl (lvar_one one2 hB11 rfl)) rfl rfl rfl ?_
    refine st_op (ev_int rfl rfl rfl) rfl rfl rfl ?_
    refine st_op (ev_pickT rfl rfl) rfl rfl rfl ?_
    refine st_op (ev_move rfl) rfl rfl rfl ?_
    refine st_bool 19 rfl (fun hb15 => ?_) (fun hb15 => ?_)
    ·
      have hb15 := eq_of_beq hb15
      refine st_op (ev_fieldAddr rfl fa27_1 (o' := 1) rfl) rfl rfl rfl ?_
      refine st_op (ev_fieldAddr rfl fa23_1 (o' := 2) rfl) rfl rfl rfl ?_
      refine st_op (ev_load rfl (lvar_one one3 h13 rfl)) rfl rfl rfl ?_
      refine st_op (ev_fieldAddr rfl fa27_1 (o' := 1) rfl) rfl rfl rfl ?_
      refine st_op (ev_fieldAddr rfl fa23_1 (o' := 2) rfl) rfl rfl rfl ?_
      refine st_op (ev_load rfl (lvar_one one3 hB11 rfl)) rfl rfl rfl ?_
      refine st_op (ev_int rfl rfl rfl) rfl rfl rfl ?_
      refine st_op (ev_pickT rfl rfl) rfl rfl rfl ?_
      refine st_op (ev_move rfl) rfl rfl rfl ?_
      refine st_bool 28 rfl (fun hb16 => ?_) (fun hb16 => ?_)
      ·
        have hb16 := eq_of_beq hb16
        refine st_op (ev_fieldAddr rfl fa27_2 (o' := 3) rfl) rfl rfl rfl ?_
        refine st_op (ev_load rfl (lvar_part (l := [.int .i64 a_e_index, .int .i64 a_e_term, .int .i64 a_e_kind, .string a_e_data]) many25 h13 rfl rfl (by decide))) rfl rfl rfl ?_
        refine st_op (ev_fieldAddr rfl fa27_2 (o' := 3) rfl) rfl rfl rfl ?_
        refine st_op (ev_load rfl (lvar_part (l := [.int .i64 b_e_index, .int .i64 b_e_term, .int .i64 b_e_kind, .string b_e_data]) many25 hB11 rfl rfl (by decide))) rfl rfl rfl ?_
        refine st_call rfl rfl rfl ent32 rfl rfl rfl ?_
        obtain ⟨_, H18, hs17, hs17v, hx19⟩ := ref17_EqEntry_spec H8 a_e_index a_e_term a_e_kind a_e_data b_e_index b_e_term b_e_kind b_e_data
        rw [hs17v] at hs17; clear hs17v
        refine ⟨_, H18, hs17, ?_⟩
        have H18n : H8.next ≤ H18.next := hx19.1
        refine st_op (ev_pickT rfl rfl) rfl rfl rfl ?_
        refine st_op (ev_assign rfl) rfl rfl rfl ?_
        try show aw _ _ _ _ _ _
        refine aw_ret ?_
        have hx20 : Ext H H18 := (Ext.trans (Ext.trans hx6 hx12) hx19)
        have hres : (decide (a_hard = b_hard ∧ a_h_term = b_h_term ∧ a_h_vote = b_h_vote ∧ a_e_index = b_e_index ∧ a_e_term = b_e_term ∧ a_e_kind = b_e_kind ∧ a_e_data = b_e_data)) = (decide (a_e_index = b_e_index ∧ a_e_term = b_e_term ∧ a_e_kind = b_e_kind ∧ a_e_data = b_e_data)) := by rw [Bool.eq_iff_iff]; simp_all [Spec.ba_iff]
        exact ⟨.bool (decide (a_e_index = b_e_index ∧ a_e_term = b_e_term ∧ a_e_kind = b_e_kind ∧ a_e_data = b_e_data)), rfl, by rw [hres], hx20⟩
      ·
        have hb16 := ne_of_beq_false hb16
        refine st_skip rfl rfl rfl ?_
        refine st_skip rfl rfl rfl ?_
        refine st_skip rfl rfl rfl ?_
        refine st_skip rfl rfl rfl ?_
        refine st_skip rfl rfl rfl ?_
        refine st_op (ev_pickF rfl rfl) rfl rfl rfl ?_
        refine st_op (ev_assign rfl) rfl rfl rfl ?_
        try show aw _ _ _ _ _ _
        refine aw_ret ?_
        have hx21 : Ext H H8 := (Ext.trans hx6 hx12)
        have hres : (decide (a_hard = b_hard ∧ a_h_term = b_h_term ∧ a_h_vote = b_h_vote ∧ a_e_index = b_e_index ∧ a_e_term = b_e_term ∧ a_e_kind = b_e_kind ∧ a_e_data = b_e_data)) = false := by rw [Bool.eq_iff_iff]; simp_all [Spec.ba_iff]
        exact ⟨.bool false, rfl, by rw [hres], hx21⟩
    ·
      have hb15 := ne_of_beq_false hb15
      refine st_skip rfl rfl rfl ?_
      refine st_skip rfl rfl rfl ?_
      refine st_skip rfl rfl rfl ?_
      refine st_skip rfl rfl rfl ?_
      refine st_skip rfl rfl rfl ?_
      refine st_skip rfl rfl rfl ?_
      refine st_skip rfl rfl rfl ?_
      refine st_op (ev_pickF rfl rfl) rfl rfl rfl ?_
      refine st_op (ev_move rfl) rfl rfl rfl ?_
      refine st_skip rfl rfl rfl ?_
      refine st_skip rfl rfl rfl ?_
      refine st_skip rfl rfl rfl ?_
      refine st_skip rfl rfl rfl ?_
      refine st_skip rfl rfl rfl ?_
      refine st_op (ev_pickF rfl rfl) rfl rfl rfl ?_
      refine st_op (ev_assign rfl) rfl rfl rfl ?_
      try show aw _ _ _ _ _ _
      refine aw_ret ?_
      have hx22 : Ext H H8 := (Ext.trans hx6 hx12)
      have hres : (decide (a_hard = b_hard ∧ a_h_term = b_h_term ∧ a_h_vote = b_h_vote ∧ a_e_index = b_e_index ∧ a_e_term = b_e_term ∧ a_e_kind = b_e_kind ∧ a_e_data = b_e_data)) = false := by rw [Bool.eq_iff_iff]; simp_all [Spec.ba_iff]
      exact ⟨.bool false, rfl, by rw [hres], hx22⟩
  ·
    have hb14 := ne_of_beq_false hb14
    refine st_skip rfl rfl rfl ?_
    refine st_skip rfl rfl rfl ?_
    refine st_skip rfl rfl rfl ?_
    refine st_skip rfl rfl rfl ?_
    refine st_skip rfl rfl rfl ?_
    refine st_skip rfl rfl rfl ?_
    refine st_skip rfl rfl rfl ?_
    refine st_op (ev_pickF rfl rfl) rfl rfl rfl ?_
    refine st_op (ev_move rfl) rfl rfl rfl ?_
    refine st_skip rfl rfl rfl ?_
    refine st_skip rfl rfl rfl ?_
    refine st_skip rfl rfl rfl ?_
    refine st_skip rfl rfl rfl ?_
    refine st_skip rfl rfl rfl ?_
    refine st_skip rfl rfl rfl ?_
    refine st_skip rfl rfl rfl ?_
    refine st_op (ev_pickF rfl rfl) rfl rfl rfl ?_
    refine st_op (ev_move rfl) rfl rfl rfl ?_
    refine st_skip rfl rfl rfl ?_
    refine st_skip rfl rfl rfl ?_
    refine st_skip rfl rfl rfl ?_
    refine st_skip rfl rfl rfl ?_
    refine st_skip rfl rfl rfl ?_
    refine st_op (ev_pickF rfl rfl) rfl rfl rfl ?_
    refine st_op (ev_assign rfl) rfl rfl rfl ?_
    try show aw _ _ _ _ _ _
    refine aw_ret ?_
    have hx23 : Ext H H8 := (Ext.trans hx6 hx12)
    have hres : (decide (a_hard = b_hard ∧ a_h_term = b_h_term ∧ a_h_vote = b_h_vote ∧ a_e_index = b_e_index ∧ a_e_term = b_e_term ∧ a_e_kind = b_e_kind ∧ a_e_data = b_e_data)) = false := by rw [Bool.eq_iff_iff]; simp_all [Spec.ba_iff]
    exact ⟨.bool false, rfl, by rw [hres], hx23⟩
theorem law1_Cut_spec (H : Heap) (s : ByteArray) (n : Int) (hn : 0 ≤ n ∧ n ≤ 1099511627776) : ∃ v H', Spec Try.prog 27 [.string s, .int .i64 n] H v H' ∧ ((v = .string (cutB s n)) ∧ ((((cutB s n)).size : Int) ≤ n) ∧ (Ext H H')) := by
  refine spec_go2 E0_ok 13 (f := 27) Try.func27 rfl rfl rfl ?_
  refine aw_seq ?_
  refine aw_reg ?_
  refine st_op (ev_assign rfl) rfl rfl rfl ?_
  try show aw _ _ _ _ _ _
  refine aw_seq ?_
  refine aw_seq ?_
  refine aw_reg ?_
  refine st_op (ev_move rfl) rfl rfl rfl ?_
  refine st_op (ev_lenStr rfl Try.underlying9) rfl rfl rfl ?_
  refine st_op (ev_move rfl) rfl rfl rfl ?_
  refine st_op (ev_int rfl rfl rfl) rfl rfl rfl ?_
  try show aw _ _ _ _ _ _
  by_cases hc1 : (decide (((s).size : Int) > n)) = true
  · refine aw_condT hc1 rfl ?_
    try show aw _ _ _ _ _ _
    have hc1 := of_decide_eq_true hc1
    refine aw_seq ?_
    refine aw_reg ?_
    refine st_op (ev_move rfl) rfl rfl rfl ?_
    refine st_op (ev_move rfl) rfl rfl rfl ?_
    refine st_op (ev_slStr Try.underlying9 rfl rfl rfl (bound_int (by omega) (by omega) rfl) rfl) rfl rfl rfl ?_
    refine st_op (ev_assign rfl) rfl rfl rfl ?_
    try show aw _ _ _ _ _ _
    refine aw_ret ?_
    have hres : (cutB s n) = ((s).extract 0 ((n).toNat)) := by first | rw [cutB, if_pos (by omega)] | rw [cutB, if_neg (by omega)]
    exact ⟨.string ((s).extract 0 ((n).toNat)), rfl, by rw [hres], (by exact cutB_size hn.1), (Ext.refl H)⟩
  · rw [Bool.not_eq_true] at hc1; refine aw_condF hc1 rfl ?_
    try show aw _ _ _ _ _ _
    have hc1 := of_decide_eq_false hc1
    refine aw_skip ?_
    try show aw _ _ _ _ _ _
    refine aw_seq ?_
    refine aw_reg ?_
    refine st_op (ev_move rfl) rfl rfl rfl ?_
    refine st_op (ev_assign rfl) rfl rfl rfl ?_
    try show aw _ _ _ _ _ _
    refine aw_ret ?_
    have hres : (cutB s n) = s := by first | rw [cutB, if_pos (by omega)] | rw [cutB, if_neg (by omega)]
    exact ⟨.string s, rfl, by rw [hres], (by exact cutB_size hn.1), (Ext.refl H)⟩
theorem law18_Cut_spec (H : Heap) (r_hard : Bool) (r_h_term : Int) (r_h_vote : Int) (r_e_index : Int) (r_e_term : Int) (r_e_kind : Int) (r_e_data : ByteArray) : ∃ v H', Spec Try.prog 10 [.agg #[.bool r_hard, .int .i64 r_h_term, .int .i64 r_h_vote, .int .i64 r_e_index, .int .i64 r_e_term, .int .i64 r_e_kind, .string r_e_data]] H v H' ∧ ((v = .agg #[.bool r_hard, .int .i64 r_h_term, .int .i64 r_h_vote, .int .i64 r_e_index, .int .i64 r_e_term, .int .i64 r_e_kind, .string (cutB r_e_data 300)]) ∧ (Ext H H')) := by
  refine spec_go1 E0_ok 10 (f := 10) Try.func10 rfl rfl rfl ?_
  refine aw_seq ?_
  refine aw_reg ?_
  obtain ⟨b1, H2, he3, b1e, H2n_, hB5, f4⟩ := mem_box (P := Try.prog) H (v := .agg #[.bool r_hard, .int .i64 r_h_term, .int .i64 r_h_vote, .int .i64 r_e_index, .int .i64 r_e_term, .int .i64 r_e_kind, .string r_e_data]) (cs := [.bool r_hard, .int .i64 r_h_term, .int .i64 r_h_vote, .int .i64 r_e_index, .int .i64 r_e_term, .int .i64 r_e_kind, .string r_e_data]) rfl rfl
  refine st_op (he3 _ _ _ _ _ _ _ _ _ rfl) rfl rfl rfl ?_
  have hx6 : Ext H H2 := Ext.new (by omega) H2n_ f4
  have H2n : H.next ≤ H2.next := hx6.1
  obtain ⟨b7, H8, he9, b7e, H8n_, hB11, f10⟩ := mem_alloc H2 zero27
  refine st_op (he9 _ _ _ _ _ _ _) rfl rfl rfl ?_
  have hx12 : Ext H2 H8 := Ext.new (by omega) H8n_ f10
  have H8n : H2.next ≤ H8.next := hx12.1
  try show aw _ _ _ _ _ _
  refine aw_seq ?_
  refine aw_reg ?_
  refine st_op (ev_fieldAddr rfl fa27_2 (o' := 3) rfl) rfl rfl rfl ?_
  refine st_op (ev_fieldAddr rfl fa25_3 (o' := 6) rfl) rfl rfl rfl ?_
  have h13 := Ext.blk hx12 (by omega) hB5
  refine st_op (ev_load rfl (lvar_one one9 h13 rfl)) rfl rfl rfl ?_
  refine st_call rfl rfl rfl ent27 rfl rfl rfl ?_
  obtain ⟨_, H15, hs14, hs14v, hq17, hx16⟩ := law1_Cut_spec H8 r_e_data 300 (by decide)
  rw [hs14v] at hs14; clear hs14v
  refine ⟨_, H15, hs14, ?_⟩
  have H15n : H8.next ≤ H15.next := hx16.1
  refine st_op (ev_fieldAddr rfl fa27_2 (o' := 3) rfl) rfl rfl rfl ?_
  refine st_op (ev_fieldAddr rfl fa25_3 (o' := 6) rfl) rfl rfl rfl ?_
  have h18 := Ext.blk hx16 (by omega) h13
  obtain ⟨H19, he20, H19n_, hB21, f22⟩ := mem_store (v := .string (cutB r_e_data (300 : Int))) (o := 6) (cs' := [.bool r_hard, .int .i64 r_h_term, .int .i64 r_h_vote, .int .i64 r_e_index, .int .i64 r_e_term, .int .i64 r_e_kind, .string (cutB r_e_data (300 : Int))]) 1 rfl rfl size9 h18 rfl rfl rfl
  refine st_op0 (he20 _ _ _ _ _ _ _ _ _ rfl rfl) rfl rfl ?_
  have hf23 : Fr (fun q => q = b1) H15 H19 := Fr.write H19n_ f22
  have H19n : H15.next ≤ H19.next := hf23.1
  try show aw _ _ _ _ _ _
  refine aw_seq ?_
  refine aw_reg ?_
  refine st_op (ev_load rfl (lvar_part (l := [.bool r_hard, .int .i64 r_h_term, .int .i64 r_h_vote, .int .i64 r_e_index, .int .i64 r_e_term, .int .i64 r_e_kind, .string (cutB r_e_data (300 : Int))]) many27 hB21 rfl rfl (by decide))) rfl rfl rfl ?_
  have h24 := Ext.blk hx16 (by omega) hB11
  have h25 := Fr.blk hf23 (by omega) (fun e => (by omega)) h24
  obtain ⟨H26, he27, H26n_, hB28, f29⟩ := mem_store (v := .agg #[.bool r_hard, .int .i64 r_h_term, .int .i64 r_h_vote, .int .i64 r_e_index, .int .i64 r_e_term, .int .i64 r_e_kind, .string (cutB r_e_data (300 : Int))]) (o := 0) (cs' := [.bool r_hard, .int .i64 r_h_term, .int .i64 r_h_vote, .int .i64 r_e_index, .int .i64 r_e_term, .int .i64 r_e_kind, .string (cutB r_e_data (300 : Int))]) 7 rfl rfl size27 h25 rfl rfl rfl
  refine st_op0 (he27 _ _ _ _ _ _ _ _ _ rfl rfl) rfl rfl ?_
  have hf30 : Fr (fun q => q = b7) H19 H26 := Fr.write H26n_ f29
  have H26n : H19.next ≤ H26.next := hf30.1
  try show aw _ _ _ _ _ _
  refine aw_ret ?_
  have hx31 : Ext H H26 := (Ext.then (Ext.then (Ext.trans (Ext.trans hx6 hx12) hx16) hf23 (fun q hq e => by omega)) hf30 (fun q hq e => by omega))
  have hres : (cutB r_e_data 300) = (cutB r_e_data (300 : Int)) := by rfl
  exact ⟨.agg #[.bool r_hard, .int .i64 r_h_term, .int .i64 r_h_vote, .int .i64 r_e_index, .int .i64 r_e_term, .int .i64 r_e_kind, .string (cutB r_e_data (300 : Int))], (resA_of (resL_cell rfl (lvar_part (l := [.bool r_hard, .int .i64 r_h_term, .int .i64 r_h_vote, .int .i64 r_e_index, .int .i64 r_e_term, .int .i64 r_e_kind, .string (cutB r_e_data (300 : Int))]) many27 hB28 rfl rfl (by decide)) resL_nil) rfl), by rw [hres], hx31⟩
theorem law_WalScan_spec (H : Heap) (rsA : Option Addr) (rs : List Rec) (rsc : Nat) (hrs : Row H rsA rsc 7 (rs.map Rec.cells)) (crs : rs.length ≤ rsc) (lrs : rs.length ≤ 140737488355328) (cut : Int) (hcut : -9223372036854775808 ≤ cut ∧ cut ≤ 9223372036854775807) (at_ : Int) (hat_ : -9223372036854775808 ≤ at_ ∧ at_ ≤ 9223372036854775807) (x : Int) (hx : 0 ≤ x ∧ x ≤ 255) (junkA : Option Addr) (junk : List Int) (junkc : Nat) (hjunk : Row H junkA junkc 1 (junk.map u8c)) (cjunk : junk.length ≤ junkc) (ljunk : junk.length ≤ 140737488355328) (bjunk : Spec.Bytes junk) : ∃ v H', Spec Try.prog 4 [.slice rsA rs.length rsc, .int .i64 cut, .int .i64 at_, .int .u8 x, .slice junkA junk.length junkc] H v H' ∧ ((v = .bool true) ∧ (Ext H H')) := by
  refine spec_go5 E0_ok 121 (f := 4) Try.func4 rfl rfl rfl ?_
  refine aw_seq ?_
  refine aw_reg ?_
  refine st_op (ev_assign rfl) rfl rfl rfl ?_
  try show aw _ _ _ _ _ _
  refine aw_seq ?_
  refine aw_reg ?_
  refine st_call rfl rfl rfl ent9 rfl rfl rfl ?_
  obtain ⟨_, H2, hs1, hs1v, hx3⟩ := law18_begun_spec H 
  rw [hs1v] at hs1; clear hs1v
  rw [hx3] at hs1; clear hx3
  refine ⟨_, H, hs1, ?_⟩
  refine st_op (ev_assign rfl) rfl rfl rfl ?_
  try show aw _ _ _ _ _ _
  refine aw_seq ?_
  refine aw_seq ?_
  refine aw_reg ?_
  refine st_op (ev_move rfl) rfl rfl rfl ?_
  refine st_op (ev_not rfl) rfl rfl rfl ?_
  try show aw _ _ _ _ _ _
  refine aw_cond (t := false) rfl ?_
  try show aw _ _ _ _ _ _
  refine aw_skip ?_
  try show aw _ _ _ _ _ _
  refine aw_seq ?_
  refine aw_reg ?_
  refine st_op (ev_assign rfl) rfl rfl rfl ?_
  try show aw _ _ _ _ _ _
  -- join u
  have hm5 : My H H none 0 1 (([] : List Int).map u8c) := .nil
  refine aw_join (α := Option Addr × Nat × List Int × Heap) (fun a => (.cons 1 (.int .i64 cut) (.cons 2 (.int .i64 at_) (.cons 3 (.int .u8 x) (.cons 4 (.slice junkA junk.length junkc) (.cons 12 (.slice a.1 a.2.2.1.length a.2.1) .nil)))))) (fun a => a.2.2.2) (fun a => (Spec.Bytes a.2.2.1) ∧ (a.2.2.1.length ≤ 20400) ∧ (My H a.2.2.2 a.1 a.2.1 1 (a.2.2.1.map u8c)) ∧ (Ext H a.2.2.2)) ?_ (fun hJ8 => ?_)
  · rintro ⟨Au, pu, bu, Hl4⟩ ⟨byu, blu, hm6, hxl7⟩
    replace byu : Spec.Bytes bu := byu
    replace blu : bu.length ≤ 20400 := blu
    replace hm6 : My H Hl4 Au pu 1 (bu.map u8c) := hm6
    replace hxl7 : Ext H Hl4 := hxl7
    show aw _ _ _ (RL _ (.cons 1 (.int .i64 cut) (.cons 2 (.int .i64 at_) (.cons 3 (.int .u8 x) (.cons 4 (.slice junkA junk.length junkc) (.cons 12 (.slice Au bu.length pu) .nil)))))) Hl4 _
    have Hl4n : H.next ≤ Hl4.next := hxl7.1
    refine aw_seq ?_
    refine aw_reg ?_
    refine st_op (ev_move rfl) rfl rfl rfl ?_
    refine st_op (ev_move rfl) rfl rfl rfl ?_
    refine st_call rfl rfl rfl ent19 rfl rfl rfl ?_
    have h9 := Row.ext hjunk hxl7
    obtain ⟨_, H11, hs10, A13, c14, hs10v, hm15, hk18, hq16, hq17, hx12⟩ := law1_Short_spec Hl4 junkA junk junkc h9 cjunk (by first | omega | (simp only [List.length_append, List.length_cons, List.length_nil, List.length_map, List.length_set, List.length_replicate, Spec.bytesOf_length]; omega) | (simp; omega)) (by first | assumption | exact Spec.Bytes.nil | exact Spec.bytes_of _ | (repeat' first | assumption | exact Spec.Bytes.nil | exact Spec.bytes_of _ | exact Spec.enc_bytes _ | exact Spec.four_bytes _ | exact Spec.sealF_bytes (by assumption) | apply Spec.Bytes.append | apply Spec.Bytes.cons (by omega) | apply Spec.Bytes.take | apply Spec.Bytes.drop)) 10 (by decide)
    rw [hs10v] at hs10; clear hs10v
    generalize hR20 : (junk.take (10 : Int).toNat) = r19 at hs10 hm15 hk18 hq16 hq17
    refine ⟨_, H11, hs10, ?_⟩
    have H11n : Hl4.next ≤ H11.next := hx12.1
    have h21 := My.ext hm6 hx12
    obtain ⟨A22, c23, H24, W25, he26, hm27, hf28⟩ := mem_append (f := u8c) (old := bu) (new := r19) (m := bu.length) (mx := r19.length) (c := pu) (by first | rfl | simp) (by first | rfl | simp) eok30 (by decide) hm6 h21 (by omega) ((hm15).srcF (by decide) (by first | rfl | simp)) rfl u8c_len u8c_one (by first | omega | (simp only [List.length_append, List.length_cons, List.length_nil, List.length_map, List.length_set, List.length_replicate, Spec.bytesOf_length]; omega) | (simp; omega)) (by first | omega | (simp only [List.length_append, List.length_cons, List.length_nil, List.length_map, List.length_set, List.length_replicate, Spec.bytesOf_length]; omega) | (simp; omega))
    refine st_op (he26 _ _ _ _ _ _ _ _ _ _ rfl rfl isrow30) rfl rfl rfl ?_
    have H24n : H11.next ≤ H24.next := hf28.1
    have hl29 : (bu ++ r19).length ≤ 30000 := by rw [List.length_append]; omega
    refine st_op (ev_assign rfl) rfl rfl rfl ?_
    try show aw _ _ _ _ _ _
    -- join v
    refine aw_join (α := Option Addr × Nat × List Int × Heap) (fun a => (.cons 2 (.int .i64 at_) (.cons 3 (.int .u8 x) (.cons 12 (.slice a.1 a.2.2.1.length a.2.1) .nil)))) (fun a => a.2.2.2) (fun a => (Spec.Bytes a.2.2.1) ∧ (a.2.2.1.length ≤ 30000) ∧ (My H a.2.2.2 a.1 a.2.1 1 (a.2.2.1.map u8c)) ∧ (Fr (fun q => (H.next ≤ q ∧ q < H24.next ∧ ZB H24 q 1)) H24 a.2.2.2)) ?_ (fun hJ33 => ?_)
    · rintro ⟨Av, pv, bv, Hl30⟩ ⟨byv, blv, hm31, hxl32⟩
      replace byv : Spec.Bytes bv := byv
      replace blv : bv.length ≤ 30000 := blv
      replace hm31 : My H Hl30 Av pv 1 (bv.map u8c) := hm31
      replace hxl32 : Fr (fun q => (H.next ≤ q ∧ q < H24.next ∧ ZB H24 q 1)) H24 Hl30 := hxl32
      show aw _ _ _ (RL _ (.cons 2 (.int .i64 at_) (.cons 3 (.int .u8 x) (.cons 12 (.slice Av bv.length pv) .nil)))) Hl30 _
      have Hl30n : H24.next ≤ Hl30.next := hxl32.1
      -- join w
      refine aw_join (α := Option Addr × Nat × List Int × Heap) (fun a => (.cons 12 (.slice a.1 a.2.2.1.length a.2.1) .nil)) (fun a => a.2.2.2) (fun a => (Spec.Bytes a.2.2.1) ∧ (a.2.2.1.length ≤ 30000) ∧ (My H a.2.2.2 a.1 a.2.1 1 (a.2.2.1.map u8c)) ∧ (Fr (fun q => (H.next ≤ q ∧ q < Hl30.next ∧ ZB Hl30 q 1)) Hl30 a.2.2.2)) ?_ (fun hJ37 => ?_)
      · rintro ⟨Aw, pw, bw, Hl34⟩ ⟨byw, blw, hm35, hxl36⟩
        replace byw : Spec.Bytes bw := byw
        replace blw : bw.length ≤ 30000 := blw
        replace hm35 : My H Hl34 Aw pw 1 (bw.map u8c) := hm35
        replace hxl36 : Fr (fun q => (H.next ≤ q ∧ q < Hl30.next ∧ ZB Hl30 q 1)) Hl30 Hl34 := hxl36
        show aw _ _ _ (RL _ (.cons 12 (.slice Aw bw.length pw) .nil)) Hl34 _
        have Hl34n : Hl30.next ≤ Hl34.next := hxl36.1
        refine aw_seq ?_
        refine aw_reg ?_
        refine st_op (ev_move rfl) rfl rfl rfl ?_
        refine st_call rfl rfl rfl ent20 rfl rfl rfl ?_
        obtain ⟨_, H39, hs38, A41, c42, hs38v, hm43, hx40⟩ := wal_Scan_spec Hl34 Aw bw pw (My.row hm35) (My.capF hm35 (by first | omega | (simp only [List.length_append, List.length_cons, List.length_nil, List.length_map, List.length_set, List.length_replicate, Spec.bytesOf_length]; omega) | (simp; omega))) (by first | omega | (simp only [List.length_append, List.length_cons, List.length_nil, List.length_map, List.length_set, List.length_replicate, Spec.bytesOf_length]; omega) | (simp; omega)) (by first | assumption | exact Spec.Bytes.nil | exact Spec.bytes_of _ | (repeat' first | assumption | exact Spec.Bytes.nil | exact Spec.bytes_of _ | exact Spec.enc_bytes _ | exact Spec.four_bytes _ | exact Spec.sealF_bytes (by assumption) | apply Spec.Bytes.append | apply Spec.Bytes.cons (by omega) | apply Spec.Bytes.take | apply Spec.Bytes.drop))
        rw [hs38v] at hs38; clear hs38v
        generalize hR45 : (Spec.scanW bw) = r44 at hs38 hm43
        obtain ⟨z46, z47, z48⟩ := r44
        dsimp only at hs38 hm43
        refine ⟨_, H39, hs38, ?_⟩
        have H39n : Hl34.next ≤ H39.next := hx40.1
        refine st_op (ev_move rfl) rfl rfl rfl ?_
        refine st_op (ev_extract rfl rfl) rfl rfl rfl ?_
        refine st_op (ev_extract rfl rfl) rfl rfl rfl ?_
        refine st_op (ev_extract rfl rfl) rfl rfl rfl ?_
        refine st_op (ev_assign rfl) rfl rfl rfl ?_
        refine st_op (ev_assign rfl) rfl rfl rfl ?_
        refine st_op (ev_assign rfl) rfl rfl rfl ?_
        try show aw _ _ _ _ _ _
        refine aw_seq ?_
        refine aw_reg ?_
        refine st_op (ev_move rfl) rfl rfl rfl ?_
        refine st_call rfl rfl rfl ent21 rfl rfl rfl ?_
        have h49 := My.ext hm35 hx40
        obtain ⟨_, H51, hs50, A53, c54, hs50v, hm55, hq56, hx52⟩ := ref17_Scan_spec H39 Aw bw pw (My.row h49) (My.capF h49 (by first | omega | (simp only [List.length_append, List.length_cons, List.length_nil, List.length_map, List.length_set, List.length_replicate, Spec.bytesOf_length]; omega) | (simp; omega))) (by first | omega | (simp only [List.length_append, List.length_cons, List.length_nil, List.length_map, List.length_set, List.length_replicate, Spec.bytesOf_length]; omega) | (simp; omega)) (by first | assumption | exact Spec.Bytes.nil | exact Spec.bytes_of _ | (repeat' first | assumption | exact Spec.Bytes.nil | exact Spec.bytes_of _ | exact Spec.enc_bytes _ | exact Spec.four_bytes _ | exact Spec.sealF_bytes (by assumption) | apply Spec.Bytes.append | apply Spec.Bytes.cons (by omega) | apply Spec.Bytes.take | apply Spec.Bytes.drop))
        rw [hs50v] at hs50; clear hs50v
        generalize hR58 : (Spec.scanW bw) = r57 at hs50 hm55 hq56
        obtain ⟨z59, z60, z61⟩ := r57
        dsimp only at hs50 hm55 hq56
        refine ⟨_, H51, hs50, ?_⟩
        have H51n : H39.next ≤ H51.next := hx52.1
        refine st_op (ev_move rfl) rfl rfl rfl ?_
        refine st_op (ev_extract rfl rfl) rfl rfl rfl ?_
        refine st_op (ev_extract rfl rfl) rfl rfl rfl ?_
        refine st_op (ev_extract rfl rfl) rfl rfl rfl ?_
        refine st_op (ev_assign rfl) rfl rfl rfl ?_
        refine st_op (ev_assign rfl) rfl rfl rfl ?_
        refine st_op (ev_assign rfl) rfl rfl rfl ?_
        try show aw _ _ _ _ _ _
        refine aw_seq ?_
        refine aw_seq ?_
        refine aw_reg ?_
        refine st_op (ev_move rfl) rfl rfl rfl ?_
        refine st_op (ev_lenSl rfl Try.underlying45) rfl rfl rfl ?_
        refine st_op (ev_move rfl) rfl rfl rfl ?_
        refine st_op (ev_lenSl rfl Try.underlying43) rfl rfl rfl ?_
        refine st_op (ev_int rfl rfl rfl) rfl rfl rfl ?_
        refine st_op (ev_move rfl) rfl rfl rfl ?_
        refine st_bool 94 rfl (fun hb62 => ?_) (fun hb62 => ?_)
        ·
          obtain ⟨hz1, hz2, hz3⟩ : z46 = z59 ∧ z47 = z60 ∧ z48 = z61 := by have hq := hR45.symm.trans hR58; simp only [Prod.mk.injEq] at hq; exact hq
          have hzl : z46.length = z59.length := by rw [hz1]
          have hb62 : ¬ ((z46.length : Int) = (z59.length : Int)) := by simpa using hb62
          exfalso; first | omega | exact hb62 hz2 | exact hb62 hz3 | exact hb62 (by rw [hz1]) | simp_all
        ·
          obtain ⟨hz1, hz2, hz3⟩ : z46 = z59 ∧ z47 = z60 ∧ z48 = z61 := by have hq := hR45.symm.trans hR58; simp only [Prod.mk.injEq] at hq; exact hq
          have hzl : z46.length = z59.length := by rw [hz1]
          have hb62 : ((z46.length : Int) = (z59.length : Int)) := by simpa using hb62
          refine st_op (ev_move rfl) rfl rfl rfl ?_
          refine st_op (ev_move rfl) rfl rfl rfl ?_
          refine st_op (ev_int rfl rfl rfl) rfl rfl rfl ?_
          refine st_op (ev_pickF rfl rfl) rfl rfl rfl ?_
          refine st_op (ev_move rfl) rfl rfl rfl ?_
          refine st_bool 99 rfl (fun hb63 => ?_) (fun hb63 => ?_)
          ·
            have hb63 : ¬ (z47 = z60) := by simpa using hb63
            exfalso; first | omega | exact hb63 hz2 | exact hb63 hz3 | exact hb63 (by rw [hz1]) | simp_all
          ·
            have hb63 : (z47 = z60) := by simpa using hb63
            refine st_op (ev_move rfl) rfl rfl rfl ?_
            refine st_op (ev_move rfl) rfl rfl rfl ?_
            refine st_op (ev_neBool isbool4 rfl rfl) rfl rfl rfl ?_
            refine st_op (ev_pickF rfl rfl) rfl rfl rfl ?_
            try show aw _ _ _ _ _ _
            by_cases hc64 : (z48 != z61) = true
            · refine aw_condT hc64 rfl ?_
              try show aw _ _ _ _ _ _
              have hc64 : ¬ (z48 = z61) := by simpa using hc64
              exfalso; first | omega | exact hc64 hz2 | exact hc64 hz3 | exact hc64 (by rw [hz1]) | simp_all
            · rw [Bool.not_eq_true] at hc64; refine aw_condF hc64 rfl ?_
              try show aw _ _ _ _ _ _
              have hc64 : (z48 = z61) := by simpa using hc64
              refine aw_skip ?_
              try show aw _ _ _ _ _ _
              refine aw_seq ?_
              refine aw_seq ?_
              refine aw_reg ?_
              refine st_op (ev_assign rfl) rfl rfl rfl ?_
              try show aw _ _ _ _ _ _
              refine aw_block ?_
              refine aw_keep [14, 17, 20] (l' := (.cons 14 (.slice A41 z46.length c42) (.cons 17 (.slice A53 z59.length c54) (.cons 20 (.int .i64 0) .nil)))) (by repeat (first | exact Up.done | refine Up.then ?_ | refine Up.inBlock ?_)) rfl ?_
              refine aw_iter (α := Nat × Heap) (fun a => z46.length - a.1) (fun a => (.cons 14 (.slice A41 z46.length c42) (.cons 17 (.slice A53 z59.length c54) (.cons 20 (.int .i64 (a.1 : Int)) .nil)))) (fun a => a.2) (fun a => (a.1 ≤ z46.length) ∧ (Ext H51 a.2)) (0, H51) ⟨(show 0 ≤ z46.length from Nat.zero_le _), (show Ext H51 H51 from (Ext.refl H51))⟩ ?_
              rintro ⟨j, Hl65⟩ ⟨hj, hxl66⟩ ih67
              replace hj : j ≤ z46.length := hj
              replace hxl66 : Ext H51 Hl65 := hxl66
              show aw _ _ _ (RL _ (.cons 14 (.slice A41 z46.length c42) (.cons 17 (.slice A53 z59.length c54) (.cons 20 (.int .i64 (j : Int)) .nil)))) Hl65 _
              have Hl65n : H51.next ≤ Hl65.next := hxl66.1
              refine aw_seq ?_
              refine aw_seq ?_
              refine aw_reg ?_
              refine st_op (ev_move rfl) rfl rfl rfl ?_
              refine st_op (ev_move rfl) rfl rfl rfl ?_
              refine st_op (ev_lenSl rfl Try.underlying45) rfl rfl rfl ?_
              refine st_op (ev_int rfl rfl rfl) rfl rfl rfl ?_
              try show aw _ _ _ _ _ _
              by_cases hc68 : (decide ((j : Int) < (z46.length : Int))) = true
              · refine aw_condT hc68 rfl ?_
                try show aw _ _ _ _ _ _
                have hc68 := of_decide_eq_true hc68
                refine aw_skip ?_
                try show aw _ _ _ _ _ _
                refine aw_seq ?_
                refine aw_block ?_
                refine aw_seq ?_
                refine aw_marks (fun b => b < Hl65.next) [(false, false), (false, false), (false, false), (false, false), (false, true), (false, false), (false, false), (false, false), (true, false), (false, false), (false, false)] mixed (by kernel_rfl) (by kernel_rfl) ?_
                refine sm_op (ev_move rfl) rfl rfl rfl ?_
                refine sm_op (ev_move rfl) rfl rfl rfl ?_
                have hx70 : Ext H39 Hl65 := (Ext.trans hx52 hxl66)
                have h69 := My.ext hm43 hx70
                have hi71 : 0 ≤ ((j : Int) : Int) := by omega
                have hi72 : ((j : Int) : Int) < ((z46.length : Nat) : Int) := by first | omega | (simp only [List.length_append, List.length_cons, List.length_nil, List.length_map, List.length_set, List.length_replicate, Spec.bytesOf_length]; omega) | (simp; omega)
                obtain ⟨x73, hx74⟩ : ∃ e, z46[j]? = some e := ⟨_, List.getElem?_eq_getElem (by first | omega | (simp only [List.length_append, List.length_cons, List.length_nil, List.length_map, List.length_set, List.length_replicate, Spec.bytesOf_length]; omega) | (simp; omega))⟩
                refine sm_op (ev_at rfl rfl (My.row h69) (getMap Rec.cells hx74) (by first | rfl | omega | simp) hi71 hi72 el45) rfl rfl rfl ?_
                refine sm_op (ev_atN (cs := [.bool x73.hard, .int .i64 x73.h.term, .int .i64 x73.h.vote, .int .i64 x73.e.index, .int .i64 x73.e.term, .int .i64 x73.e.kind, .string x73.e.data]) rfl (My.row h69) (getMap Rec.cells hx74) many32 rfl rfl (by decide)) rfl rfl rfl ?_
                refine sm_call rfl rfl rfl ent18 rfl rfl rfl ?_
                obtain ⟨_, H76, hs75, hs75v, hx77⟩ := law18_back_spec Hl65 x73.hard x73.h.term x73.h.vote x73.e.index x73.e.term x73.e.kind x73.e.data
                rw [hs75v] at hs75; clear hs75v
                refine ⟨_, H76, hs75, (fun _ b hb => hx77.2 b (by omega)), ?_⟩
                have H76n : Hl65.next ≤ H76.next := hx77.1
                refine sm_op (ev_move rfl) rfl rfl rfl ?_
                refine sm_op (ev_move rfl) rfl rfl rfl ?_
                have hx79 : Ext H51 H76 := (Ext.trans hxl66 hx77)
                have h78 := My.ext hm55 hx79
                have hi80 : 0 ≤ ((j : Int) : Int) := by omega
                have hi81 : ((j : Int) : Int) < ((z59.length : Nat) : Int) := by first | omega | (simp only [List.length_append, List.length_cons, List.length_nil, List.length_map, List.length_set, List.length_replicate, Spec.bytesOf_length]; omega) | (simp; omega)
                obtain ⟨x82, hx83⟩ : ∃ e, z59[j]? = some e := ⟨_, List.getElem?_eq_getElem (by first | omega | (simp only [List.length_append, List.length_cons, List.length_nil, List.length_map, List.length_set, List.length_replicate, Spec.bytesOf_length]; omega) | (simp; omega))⟩
                refine sm_op (ev_at rfl rfl (My.row h78) (getMap Rec.cells hx83) (by first | rfl | omega | simp) hi80 hi81 el43) rfl rfl rfl ?_
                refine sm_read (ev_atN (cs := [.bool x82.hard, .int .i64 x82.h.term, .int .i64 x82.h.vote, .int .i64 x82.e.index, .int .i64 x82.e.term, .int .i64 x82.e.kind, .string x82.e.data]) rfl (My.row h78) (getMap Rec.cells hx83) many27 rfl rfl (by decide)) rfl rfl rfl (fun q hq => Nat.lt_of_lt_of_le (rd_at rfl rfl (My.row hm55) (getMap Rec.cells hx83) hq) (by omega)) ?_
                refine sm_call rfl rfl rfl ent17 rfl rfl rfl ?_
                obtain ⟨_, H85, hs84, hs84v, hx86⟩ := ref17_Eq_spec H76 x73.hard x73.h.term x73.h.vote x73.e.index x73.e.term x73.e.kind x73.e.data x82.hard x82.h.term x82.h.vote x82.e.index x82.e.term x82.e.kind x82.e.data
                rw [hs84v] at hs84; clear hs84v
                refine ⟨_, H85, hs84, (fun _ b hb => hx86.2 b (by omega)), ?_⟩
                have H85n : H76.next ≤ H85.next := hx86.1
                refine sm_op (ev_not rfl) rfl rfl rfl ?_
                try show aw _ _ _ _ _ _
                by_cases hc87 : (!(decide (x73.hard = x82.hard ∧ x73.h.term = x82.h.term ∧ x73.h.vote = x82.h.vote ∧ x73.e.index = x82.e.index ∧ x73.e.term = x82.e.term ∧ x73.e.kind = x82.e.kind ∧ x73.e.data = x82.e.data))) = true
                · refine aw_condT hc87 rfl ?_
                  try show aw _ _ _ _ _ _
                  replace hc87 : (decide (x73.hard = x82.hard ∧ x73.h.term = x82.h.term ∧ x73.h.vote = x82.h.vote ∧ x73.e.index = x82.e.index ∧ x73.e.term = x82.e.term ∧ x73.e.kind = x82.e.kind ∧ x73.e.data = x82.e.data)) = false := by rw [Bool.not_eq_true'] at hc87; exact hc87
                  have hc87 := of_decide_eq_false hc87
                  exfalso; have hee : x73 = x82 := by have hq := hx74; rw [hz1, hx83] at hq; exact (Option.some.inj hq).symm
                  subst hee; exact hc87 ⟨rfl, rfl, rfl, rfl, rfl, rfl, rfl⟩
                · rw [Bool.not_eq_true] at hc87; refine aw_condF hc87 rfl ?_
                  try show aw _ _ _ _ _ _
                  replace hc87 : (decide (x73.hard = x82.hard ∧ x73.h.term = x82.h.term ∧ x73.h.vote = x82.h.vote ∧ x73.e.index = x82.e.index ∧ x73.e.term = x82.e.term ∧ x73.e.kind = x82.e.kind ∧ x73.e.data = x82.e.data)) = true := by rw [Bool.not_eq_false'] at hc87; exact hc87
                  have hc87 := of_decide_eq_true hc87
                  refine aw_skip ?_
                  try show aw _ _ _ _ _ _
                  refine aw_reg ?_
                  refine st_op (ev_move rfl) rfl rfl rfl ?_
                  refine st_op (ev_int64 (c := (j : Int) + 1) rfl rfl rfl (by omega) (by omega)) rfl rfl rfl ?_
                  refine st_op (ev_assign rfl) rfl rfl rfl ?_
                  try show aw _ _ _ _ _ _
                  have hx88 : Ext H51 H85 := (Ext.trans hx79 hx86)
                  refine aw_keep [14, 17, 20] (l' := (.cons 14 (.slice A41 z46.length c42) (.cons 17 (.slice A53 z59.length c54) (.cons 20 (.int .i64 ((j : Int) + 1)) .nil)))) (by repeat (first | exact Up.done | refine Up.then ?_ | refine Up.inBlock ?_)) rfl ?_
                  exact ih67 (j + 1, H85) ⟨(show (j + 1) ≤ z46.length from (by omega)), (show Ext H51 H85 from hx88)⟩ (by simp only; omega)
              · rw [Bool.not_eq_true] at hc68; refine aw_condF hc68 rfl ?_
                try show aw _ _ _ _ _ _
                have hc68 := of_decide_eq_false hc68
                refine aw_exit ?_
                try show aw _ _ _ _ _ _
                refine aw_seq ?_
                refine aw_reg ?_
                refine st_op (ev_assign rfl) rfl rfl rfl ?_
                try show aw _ _ _ _ _ _
                refine aw_ret ?_
                have hx89 : Ext H Hl65 := (Ext.trans (Ext.trans (Ext.trans (Ext.then (Ext.then (Ext.then (Ext.trans hxl7 hx12) hf28 (fun q hq e => by omega)) hxl32 (fun q hq e => by omega)) hxl36 (fun q hq e => by omega)) hx40) hx52) hxl66)
                have hres : true = true := by rfl
                exact ⟨.bool true, rfl, by rw [hres], hx89⟩
      · skip
        refine aw_seq ?_
        refine aw_reg ?_
        refine st_op (ev_move rfl) rfl rfl rfl ?_
        refine st_op (ev_lenSl rfl Try.underlying30) rfl rfl rfl ?_
        refine st_op (ev_int rfl rfl rfl) rfl rfl rfl ?_
        refine st_op (ev_move rfl) rfl rfl rfl ?_
        refine st_bool 63 rfl (fun hb90 => ?_) (fun hb90 => ?_)
        ·
          have hb90 := of_decide_eq_true hb90
          refine st_op (ev_move rfl) rfl rfl rfl ?_
          refine st_op (ev_int rfl rfl rfl) rfl rfl rfl ?_
          refine st_op (ev_pickT rfl rfl) rfl rfl rfl ?_
          try show aw _ _ _ _ _ _
          by_cases hc91 : (decide (at_ ≥ 0)) = true
          · refine aw_condT hc91 rfl ?_
            try show aw _ _ _ _ _ _
            have hc91 := of_decide_eq_true hc91
            refine aw_reg ?_
            refine st_op (ev_move rfl) rfl rfl rfl ?_
            refine st_op (ev_move rfl) rfl rfl rfl ?_
            refine st_op (ev_move rfl) rfl rfl rfl ?_
            refine st_op (ev_lenSl rfl Try.underlying30) rfl rfl rfl ?_
            have ht92 : 0 ≤ Int.tmod at_ (bv.length : Int) ∧ Int.tmod at_ (bv.length : Int) < (bv.length : Int) := ⟨Int.tmod_nonneg _ (by omega), Int.tmod_lt_of_pos _ (by omega)⟩
            refine st_op (ev_rem rfl rfl (by omega)) rfl rfl rfl ?_
            have hi93 : 0 ≤ ((Int.tmod at_ (bv.length : Int)) : Int) := by omega
            have hi94 : ((Int.tmod at_ (bv.length : Int)) : Int) < ((bv.length : Nat) : Int) := by first | omega | (simp only [List.length_append, List.length_cons, List.length_nil, List.length_map, List.length_set, List.length_replicate, Spec.bytesOf_length]; omega) | (simp; omega)
            obtain ⟨x95, hx96⟩ : ∃ e, bv[((Int.tmod at_ (bv.length : Int))).toNat]? = some e := ⟨_, List.getElem?_eq_getElem (by first | omega | (simp only [List.length_append, List.length_cons, List.length_nil, List.length_map, List.length_set, List.length_replicate, Spec.bytesOf_length]; omega) | (simp; omega))⟩
            have x95b : 0 ≤ x95 ∧ x95 < 256 := ((by first | assumption | exact Spec.Bytes.nil | exact Spec.bytes_of _ | (repeat' first | assumption | exact Spec.Bytes.nil | exact Spec.bytes_of _ | exact Spec.enc_bytes _ | exact Spec.four_bytes _ | exact Spec.sealF_bytes (by assumption) | apply Spec.Bytes.append | apply Spec.Bytes.cons (by omega) | apply Spec.Bytes.take | apply Spec.Bytes.drop)) : Spec.Bytes bv) _ (List.mem_of_getElem? hx96)
            refine st_op (ev_at rfl rfl (My.row hm31) (getMap u8c hx96) (by first | rfl | omega | simp) hi93 hi94 el30) rfl rfl rfl ?_
            refine st_op (ev_atL rfl (My.row hm31) (getMap u8c hx96) one5 rfl) rfl rfl rfl ?_
            refine st_op (ev_move rfl) rfl rfl rfl ?_
            have hw97 : 0 ≤ (Go.bits .xor .u8 x95 x) ∧ (Go.bits .xor .u8 x95 x) ≤ 255 := bitsU8 _ _ _
            refine st_op (ev_bits rfl rfl rfl) rfl rfl rfl ?_
            have hi98 : 0 ≤ ((Int.tmod at_ (bv.length : Int)) : Int) := by omega
            have hi99 : ((Int.tmod at_ (bv.length : Int)) : Int) < ((bv.length : Nat) : Int) := by first | omega | (simp only [List.length_append, List.length_cons, List.length_nil, List.length_map, List.length_set, List.length_replicate, Spec.bytesOf_length]; omega) | (simp; omega)
            refine st_op (ev_at rfl rfl (My.row hm31) (getMap u8c hx96) (by first | rfl | omega | simp) hi98 hi99 el30) rfl rfl rfl ?_
            obtain ⟨H100, W101, he102, hm103, hf104, H100n_⟩ := mem_storeAt (v := .int .u8 (Go.bits .xor .u8 x95 x)) size5 rfl rfl hm31 hm31 (getMap u8c hx96) (show 0 < 1 by decide)
            rw [show (u8c x95).set 0 (.int .u8 (Go.bits .xor .u8 x95 x)) = u8c (Go.bits .xor .u8 x95 x) from rfl, ← List.map_set] at hm103
            refine st_op0 (he102 _ _ _ _ _ _ _ _ _ rfl rfl) rfl rfl ?_
            have H100n : Hl30.next ≤ H100.next := hf104.1
            try show aw _ _ _ _ _ _
            refine aw_keep [12] (l' := (.cons 12 (.slice Av bv.length pv) .nil)) (by repeat (first | exact Up.done | refine Up.then ?_ | refine Up.inBlock ?_)) rfl ?_
            rw [show bv.length = (bv.set (((Int.tmod at_ (bv.length : Int))).toNat) (Go.bits .xor .u8 x95 x)).length from by first | rfl | simp]
            exact hJ37 (Av, pv, (bv.set (((Int.tmod at_ (bv.length : Int))).toNat) (Go.bits .xor .u8 x95 x)), H100) ⟨(show Spec.Bytes (bv.set (((Int.tmod at_ (bv.length : Int))).toNat) (Go.bits .xor .u8 x95 x)) from (Spec.Bytes.set (by assumption) (by omega))), (show (bv.set (((Int.tmod at_ (bv.length : Int))).toNat) (Go.bits .xor .u8 x95 x)).length ≤ 30000 from (by first | omega | (simp only [List.length_append, List.length_cons, List.length_nil, List.length_map, List.length_set, List.length_replicate, Spec.bytesOf_length]; omega) | (simp; omega))), (show My H H100 Av pv 1 ((bv.set (((Int.tmod at_ (bv.length : Int))).toNat) (Go.bits .xor .u8 x95 x)).map u8c) from hm103), (show Fr (fun q => (H.next ≤ q ∧ q < Hl30.next ∧ ZB Hl30 q 1)) Hl30 H100 from (Fr.transG (Fr.refl (fun q => (H.next ≤ q ∧ q < Hl30.next ∧ ZB Hl30 q 1)) Hl30) hf104 (fun q hq hE e => (⟨by omega, by omega, ZB.back hE e.2.2⟩))))⟩
          · rw [Bool.not_eq_true] at hc91; refine aw_condF hc91 rfl ?_
            try show aw _ _ _ _ _ _
            have hc91 := of_decide_eq_false hc91
            refine aw_skip ?_
            try show aw _ _ _ _ _ _
            refine aw_keep [12] (l' := (.cons 12 (.slice Av bv.length pv) .nil)) (by repeat (first | exact Up.done | refine Up.then ?_ | refine Up.inBlock ?_)) rfl ?_
            exact hJ37 (Av, pv, bv, Hl30) ⟨(show Spec.Bytes bv from (by first | assumption | exact Spec.Bytes.nil | exact Spec.bytes_of _ | (repeat' first | assumption | exact Spec.Bytes.nil | exact Spec.bytes_of _ | exact Spec.enc_bytes _ | exact Spec.four_bytes _ | exact Spec.sealF_bytes (by assumption) | apply Spec.Bytes.append | apply Spec.Bytes.cons (by omega) | apply Spec.Bytes.take | apply Spec.Bytes.drop))), (show bv.length ≤ 30000 from (by first | omega | (simp only [List.length_append, List.length_cons, List.length_nil, List.length_map, List.length_set, List.length_replicate, Spec.bytesOf_length]; omega) | (simp; omega))), (show My H Hl30 Av pv 1 (bv.map u8c) from hm31), (show Fr (fun q => (H.next ≤ q ∧ q < Hl30.next ∧ ZB Hl30 q 1)) Hl30 Hl30 from (Fr.refl (fun q => (H.next ≤ q ∧ q < Hl30.next ∧ ZB Hl30 q 1)) Hl30))⟩
        ·
          have hb90 := of_decide_eq_false hb90
          refine st_skip rfl rfl rfl ?_
          refine st_skip rfl rfl rfl ?_
          refine st_op (ev_pickF rfl rfl) rfl rfl rfl ?_
          try show aw _ _ _ _ _ _
          refine aw_cond (t := false) rfl ?_
          try show aw _ _ _ _ _ _
          refine aw_skip ?_
          try show aw _ _ _ _ _ _
          refine aw_keep [12] (l' := (.cons 12 (.slice Av bv.length pv) .nil)) (by repeat (first | exact Up.done | refine Up.then ?_ | refine Up.inBlock ?_)) rfl ?_
          exact hJ37 (Av, pv, bv, Hl30) ⟨(show Spec.Bytes bv from (by first | assumption | exact Spec.Bytes.nil | exact Spec.bytes_of _ | (repeat' first | assumption | exact Spec.Bytes.nil | exact Spec.bytes_of _ | exact Spec.enc_bytes _ | exact Spec.four_bytes _ | exact Spec.sealF_bytes (by assumption) | apply Spec.Bytes.append | apply Spec.Bytes.cons (by omega) | apply Spec.Bytes.take | apply Spec.Bytes.drop))), (show bv.length ≤ 30000 from (by first | omega | (simp only [List.length_append, List.length_cons, List.length_nil, List.length_map, List.length_set, List.length_replicate, Spec.bytesOf_length]; omega) | (simp; omega))), (show My H Hl30 Av pv 1 (bv.map u8c) from hm31), (show Fr (fun q => (H.next ≤ q ∧ q < Hl30.next ∧ ZB Hl30 q 1)) Hl30 Hl30 from (Fr.refl (fun q => (H.next ≤ q ∧ q < Hl30.next ∧ ZB Hl30 q 1)) Hl30))⟩
    · skip
      refine aw_seq ?_
      refine aw_reg ?_
      refine st_op (ev_move rfl) rfl rfl rfl ?_
      refine st_op (ev_int rfl rfl rfl) rfl rfl rfl ?_
      refine st_op (ev_move rfl) rfl rfl rfl ?_
      refine st_bool 48 rfl (fun hb105 => ?_) (fun hb105 => ?_)
      ·
        have hb105 := of_decide_eq_true hb105
        refine st_op (ev_move rfl) rfl rfl rfl ?_
        refine st_op (ev_move rfl) rfl rfl rfl ?_
        refine st_op (ev_lenSl rfl Try.underlying30) rfl rfl rfl ?_
        refine st_op (ev_int rfl rfl rfl) rfl rfl rfl ?_
        refine st_op (ev_pickT rfl rfl) rfl rfl rfl ?_
        try show aw _ _ _ _ _ _
        by_cases hc106 : (decide (cut ≤ ((bu ++ r19).length : Int))) = true
        · refine aw_condT hc106 rfl ?_
          try show aw _ _ _ _ _ _
          have hc106 := of_decide_eq_true hc106
          refine aw_reg ?_
          refine st_op (ev_move rfl) rfl rfl rfl ?_
          refine st_op (ev_move rfl) rfl rfl rfl ?_
          refine st_op (ev_lenSl rfl Try.underlying30) rfl rfl rfl ?_
          refine st_op (ev_move rfl) rfl rfl rfl ?_
          refine st_op (ev_int64 (c := ((bu ++ r19).length : Int) - cut) rfl rfl rfl (by omega) (by omega)) rfl rfl rfl ?_
          obtain ⟨A107, c108, L109, hL110, hl111, hs112, hr113⟩ := sliceA_my u8c el30 (by decide) hm27 (by first | omega | (simp only [List.length_append, List.length_cons, List.length_nil, List.length_map, List.length_set, List.length_replicate, Spec.bytesOf_length]; omega) | (simp; omega)) (lo := none) (hi := some (.int .i64 (((bu ++ r19).length : Int) - cut))) (p := 0) (q := ((((bu ++ r19).length : Int) - cut)).toNat) (by rw [Option.isSome_some, if_pos rfl]; exact bound_int (by first | omega | (simp only [List.length_append, List.length_cons, List.length_nil, List.length_map, List.length_set, List.length_replicate, Spec.bytesOf_length]; omega) | (simp; omega)) (by first | omega | (simp only [List.length_append, List.length_cons, List.length_nil, List.length_map, List.length_set, List.length_replicate, Spec.bytesOf_length]; omega) | (simp; omega)) (by first | rfl | omega)) rfl (by first | omega | (simp only [List.length_append, List.length_cons, List.length_nil, List.length_map, List.length_set, List.length_replicate, Spec.bytesOf_length]; omega) | (simp; omega)) (by first | omega | (simp only [List.length_append, List.length_cons, List.length_nil, List.length_map, List.length_set, List.length_replicate, Spec.bytesOf_length]; omega) | (simp; omega)) (.inr ⟨_, _, rfl⟩)
          refine st_op (ev_slice rfl rfl rfl rfl hs112) rfl rfl rfl ?_
          have hL110b : Spec.Bytes L109 := by rw [hL110]; exact Spec.Bytes.take (Spec.Bytes.drop (by first | assumption | exact Spec.Bytes.nil | exact Spec.bytes_of _ | (repeat' first | assumption | exact Spec.Bytes.nil | exact Spec.bytes_of _ | exact Spec.enc_bytes _ | exact Spec.four_bytes _ | exact Spec.sealF_bytes (by assumption) | apply Spec.Bytes.append | apply Spec.Bytes.cons (by omega) | apply Spec.Bytes.take | apply Spec.Bytes.drop)) _) _
          refine st_op (ev_assign rfl) rfl rfl rfl ?_
          try show aw _ _ _ _ _ _
          refine aw_keep [2, 3, 12] (l' := (.cons 2 (.int .i64 at_) (.cons 3 (.int .u8 x) (.cons 12 (.slice A107 L109.length c108) .nil)))) (by repeat (first | exact Up.done | refine Up.then ?_ | refine Up.inBlock ?_)) rfl ?_
          exact hJ33 (A107, c108, L109, H24) ⟨(show Spec.Bytes L109 from (by first | assumption | exact Spec.Bytes.nil | exact Spec.bytes_of _ | (repeat' first | assumption | exact Spec.Bytes.nil | exact Spec.bytes_of _ | exact Spec.enc_bytes _ | exact Spec.four_bytes _ | exact Spec.sealF_bytes (by assumption) | apply Spec.Bytes.append | apply Spec.Bytes.cons (by omega) | apply Spec.Bytes.take | apply Spec.Bytes.drop))), (show L109.length ≤ 30000 from (by first | omega | (simp only [List.length_append, List.length_cons, List.length_nil, List.length_map, List.length_set, List.length_replicate, Spec.bytesOf_length]; omega) | (simp; omega))), (show My H H24 A107 c108 1 (L109.map u8c) from hr113), (show Fr (fun q => (H.next ≤ q ∧ q < H24.next ∧ ZB H24 q 1)) H24 H24 from (Fr.refl (fun q => (H.next ≤ q ∧ q < H24.next ∧ ZB H24 q 1)) H24))⟩
        · rw [Bool.not_eq_true] at hc106; refine aw_condF hc106 rfl ?_
          try show aw _ _ _ _ _ _
          have hc106 := of_decide_eq_false hc106
          refine aw_skip ?_
          try show aw _ _ _ _ _ _
          refine aw_keep [2, 3, 12] (l' := (.cons 2 (.int .i64 at_) (.cons 3 (.int .u8 x) (.cons 12 (.slice A22 ((bu ++ r19).length) c23) .nil)))) (by repeat (first | exact Up.done | refine Up.then ?_ | refine Up.inBlock ?_)) rfl ?_
          exact hJ33 (A22, c23, (bu ++ r19), H24) ⟨(show Spec.Bytes (bu ++ r19) from (by first | assumption | exact Spec.Bytes.nil | exact Spec.bytes_of _ | (repeat' first | assumption | exact Spec.Bytes.nil | exact Spec.bytes_of _ | exact Spec.enc_bytes _ | exact Spec.four_bytes _ | exact Spec.sealF_bytes (by assumption) | apply Spec.Bytes.append | apply Spec.Bytes.cons (by omega) | apply Spec.Bytes.take | apply Spec.Bytes.drop))), (show (bu ++ r19).length ≤ 30000 from (by first | omega | (simp only [List.length_append, List.length_cons, List.length_nil, List.length_map, List.length_set, List.length_replicate, Spec.bytesOf_length]; omega) | (simp; omega))), (show My H H24 A22 c23 1 ((bu ++ r19).map u8c) from hm27), (show Fr (fun q => (H.next ≤ q ∧ q < H24.next ∧ ZB H24 q 1)) H24 H24 from (Fr.refl (fun q => (H.next ≤ q ∧ q < H24.next ∧ ZB H24 q 1)) H24))⟩
      ·
        have hb105 := of_decide_eq_false hb105
        refine st_skip rfl rfl rfl ?_
        refine st_skip rfl rfl rfl ?_
        refine st_skip rfl rfl rfl ?_
        refine st_skip rfl rfl rfl ?_
        refine st_op (ev_pickF rfl rfl) rfl rfl rfl ?_
        try show aw _ _ _ _ _ _
        refine aw_cond (t := false) rfl ?_
        try show aw _ _ _ _ _ _
        refine aw_skip ?_
        try show aw _ _ _ _ _ _
        refine aw_keep [2, 3, 12] (l' := (.cons 2 (.int .i64 at_) (.cons 3 (.int .u8 x) (.cons 12 (.slice A22 ((bu ++ r19).length) c23) .nil)))) (by repeat (first | exact Up.done | refine Up.then ?_ | refine Up.inBlock ?_)) rfl ?_
        exact hJ33 (A22, c23, (bu ++ r19), H24) ⟨(show Spec.Bytes (bu ++ r19) from (by first | assumption | exact Spec.Bytes.nil | exact Spec.bytes_of _ | (repeat' first | assumption | exact Spec.Bytes.nil | exact Spec.bytes_of _ | exact Spec.enc_bytes _ | exact Spec.four_bytes _ | exact Spec.sealF_bytes (by assumption) | apply Spec.Bytes.append | apply Spec.Bytes.cons (by omega) | apply Spec.Bytes.take | apply Spec.Bytes.drop))), (show (bu ++ r19).length ≤ 30000 from (by first | omega | (simp only [List.length_append, List.length_cons, List.length_nil, List.length_map, List.length_set, List.length_replicate, Spec.bytesOf_length]; omega) | (simp; omega))), (show My H H24 A22 c23 1 ((bu ++ r19).map u8c) from hm27), (show Fr (fun q => (H.next ≤ q ∧ q < H24.next ∧ ZB H24 q 1)) H24 H24 from (Fr.refl (fun q => (H.next ≤ q ∧ q < H24.next ∧ ZB H24 q 1)) H24))⟩
  · skip
    refine aw_seq ?_
    refine aw_reg ?_
    refine st_op (ev_assign rfl) rfl rfl rfl ?_
    try show aw _ _ _ _ _ _
    refine aw_block ?_
    have hm116 : My H H none 0 1 (([] : List Int).map u8c) := .nil
    refine aw_keep [0, 1, 2, 3, 4, 12, 13] (l' := (.cons 0 (.slice rsA rs.length rsc) (.cons 1 (.int .i64 cut) (.cons 2 (.int .i64 at_) (.cons 3 (.int .u8 x) (.cons 4 (.slice junkA junk.length junkc) (.cons 12 (.slice none 0 0) (.cons 13 (.int .i64 0) .nil)))))))) (by repeat (first | exact Up.done | refine Up.then ?_ | refine Up.inBlock ?_)) rfl ?_
    refine aw_iter (α := Nat × Option Addr × Nat × List Int × Heap) (fun a => rs.length - a.1) (fun a => (.cons 0 (.slice rsA rs.length rsc) (.cons 1 (.int .i64 cut) (.cons 2 (.int .i64 at_) (.cons 3 (.int .u8 x) (.cons 4 (.slice junkA junk.length junkc) (.cons 12 (.slice a.2.1 a.2.2.2.1.length a.2.2.1) (.cons 13 (.int .i64 (a.1 : Int)) .nil)))))))) (fun a => a.2.2.2.2) (fun a => (a.1 ≤ rs.length) ∧ (a.1 ≤ 8) ∧ (Spec.Bytes a.2.2.2.1) ∧ (a.2.2.2.1.length ≤ 2550 * a.1) ∧ (My H a.2.2.2.2 a.2.1 a.2.2.1 1 (a.2.2.2.1.map u8c)) ∧ (Ext H a.2.2.2.2)) (0, none, 0, ([] : List Int), H) ⟨(show 0 ≤ rs.length from Nat.zero_le _), (show 0 ≤ 8 from (by decide)), (show Spec.Bytes ([] : List Int) from Spec.Bytes.nil), (show ([] : List Int).length ≤ 2550 * 0 from (by decide)), (show My H H none 0 1 (([] : List Int).map u8c) from hm116), (show Ext H H from (Ext.refl H))⟩ ?_
    rintro ⟨i, A, cp, b, Hl115⟩ ⟨hi, hi8, hby, hbl, hm117, hxl118⟩ ih119
    replace hi : i ≤ rs.length := hi
    replace hi8 : i ≤ 8 := hi8
    replace hby : Spec.Bytes b := hby
    replace hbl : b.length ≤ 2550 * i := hbl
    replace hm117 : My H Hl115 A cp 1 (b.map u8c) := hm117
    replace hxl118 : Ext H Hl115 := hxl118
    show aw _ _ _ (RL _ (.cons 0 (.slice rsA rs.length rsc) (.cons 1 (.int .i64 cut) (.cons 2 (.int .i64 at_) (.cons 3 (.int .u8 x) (.cons 4 (.slice junkA junk.length junkc) (.cons 12 (.slice A b.length cp) (.cons 13 (.int .i64 (i : Int)) .nil)))))))) Hl115 _
    have Hl115n : H.next ≤ Hl115.next := hxl118.1
    refine aw_seq ?_
    refine aw_seq ?_
    refine aw_reg ?_
    refine st_op (ev_move rfl) rfl rfl rfl ?_
    refine st_op (ev_move rfl) rfl rfl rfl ?_
    refine st_op (ev_lenSl rfl Try.underlying43) rfl rfl rfl ?_
    refine st_op (ev_int rfl rfl rfl) rfl rfl rfl ?_
    refine st_op (ev_move rfl) rfl rfl rfl ?_
    refine st_bool 28 rfl (fun hb120 => ?_) (fun hb120 => ?_)
    ·
      have hb120 := of_decide_eq_true hb120
      refine st_op (ev_move rfl) rfl rfl rfl ?_
      refine st_op (ev_int rfl rfl rfl) rfl rfl rfl ?_
      refine st_op (ev_pickT rfl rfl) rfl rfl rfl ?_
      try show aw _ _ _ _ _ _
      by_cases hc121 : (decide ((i : Int) < 8)) = true
      · refine aw_condT hc121 rfl ?_
        try show aw _ _ _ _ _ _
        have hc121 := of_decide_eq_true hc121
        refine aw_skip ?_
        try show aw _ _ _ _ _ _
        refine aw_seq ?_
        refine aw_block ?_
        refine aw_reg ?_
        refine st_op (ev_move rfl) rfl rfl rfl ?_
        refine st_op (ev_move rfl) rfl rfl rfl ?_
        refine st_op (ev_move rfl) rfl rfl rfl ?_
        have h122 := Row.ext hrs hxl118
        have hi123 : 0 ≤ ((i : Int) : Int) := by omega
        have hi124 : ((i : Int) : Int) < ((rs.length : Nat) : Int) := by first | omega | (simp only [List.length_append, List.length_cons, List.length_nil, List.length_map, List.length_set, List.length_replicate, Spec.bytesOf_length]; omega) | (simp; omega)
        obtain ⟨x125, hx126⟩ : ∃ e, rs[i]? = some e := ⟨_, List.getElem?_eq_getElem (by first | omega | (simp only [List.length_append, List.length_cons, List.length_nil, List.length_map, List.length_set, List.length_replicate, Spec.bytesOf_length]; omega) | (simp; omega))⟩
        refine st_op (ev_at rfl rfl h122 (getMap Rec.cells hx126) (by first | rfl | omega | simp) hi123 hi124 el43) rfl rfl rfl ?_
        refine st_op (ev_atN (cs := [.bool x125.hard, .int .i64 x125.h.term, .int .i64 x125.h.vote, .int .i64 x125.e.index, .int .i64 x125.e.term, .int .i64 x125.e.kind, .string x125.e.data]) rfl h122 (getMap Rec.cells hx126) many27 rfl rfl (by decide)) rfl rfl rfl ?_
        refine st_call rfl rfl rfl ent10 rfl rfl rfl ?_
        obtain ⟨_, H128, hs127, hs127v, hx129⟩ := law18_Cut_spec Hl115 x125.hard x125.h.term x125.h.vote x125.e.index x125.e.term x125.e.kind x125.e.data
        rw [hs127v] at hs127; clear hs127v
        refine ⟨_, H128, hs127, ?_⟩
        have H128n : Hl115.next ≤ H128.next := hx129.1
        refine st_call rfl rfl rfl ent15 rfl rfl rfl ?_
        obtain ⟨_, H131, hs130, A133, c134, hs130v, hm135, hq136, hx132⟩ := ref17_Encode_spec H128 x125.hard x125.h.term x125.h.vote x125.e.index x125.e.term x125.e.kind (cutB x125.e.data 300)
        rw [hs130v] at hs130; clear hs130v
        refine ⟨_, H131, hs130, ?_⟩
        have H131n : H128.next ≤ H131.next := hx132.1
        have hx138 : Ext Hl115 H131 := (Ext.trans hx129 hx132)
        have h137 := My.ext hm117 hx138
        obtain ⟨A139, c140, H141, W142, he143, hm144, hf145⟩ := mem_append (f := u8c) (old := b) (new := (Spec.encodeF x125.hard x125.h.term x125.h.vote x125.e.index x125.e.term x125.e.kind (cutB x125.e.data 300))) (m := b.length) (mx := (Spec.encodeF x125.hard x125.h.term x125.h.vote x125.e.index x125.e.term x125.e.kind (cutB x125.e.data 300)).length) (c := cp) (by first | rfl | simp) (by first | rfl | simp) eok30 (by decide) hm117 h137 (by omega) (((My.row hm135)).srcF (by decide) (by first | rfl | simp)) rfl u8c_len u8c_one (by first | omega | (simp only [List.length_append, List.length_cons, List.length_nil, List.length_map, List.length_set, List.length_replicate, Spec.bytesOf_length]; omega) | (simp; omega)) (by first | omega | (simp only [List.length_append, List.length_cons, List.length_nil, List.length_map, List.length_set, List.length_replicate, Spec.bytesOf_length]; omega) | (simp; omega))
        refine st_op (he143 _ _ _ _ _ _ _ _ _ _ rfl rfl isrow30) rfl rfl rfl ?_
        have H141n : H131.next ≤ H141.next := hf145.1
        have hl146 : (b ++ (Spec.encodeF x125.hard x125.h.term x125.h.vote x125.e.index x125.e.term x125.e.kind (cutB x125.e.data 300))).length ≤ 30000 := by rw [List.length_append]; omega
        refine st_op (ev_assign rfl) rfl rfl rfl ?_
        try show aw _ _ _ _ _ _
        refine aw_reg ?_
        refine st_op (ev_move rfl) rfl rfl rfl ?_
        refine st_op (ev_int64 (c := (i : Int) + 1) rfl rfl rfl (by omega) (by omega)) rfl rfl rfl ?_
        refine st_op (ev_assign rfl) rfl rfl rfl ?_
        try show aw _ _ _ _ _ _
        have hx147 : Ext H H141 := (Ext.then (Ext.trans (Ext.trans hxl118 hx129) hx132) hf145 (fun q hq e => by omega))
        refine aw_keep [0, 1, 2, 3, 4, 12, 13] (l' := (.cons 0 (.slice rsA rs.length rsc) (.cons 1 (.int .i64 cut) (.cons 2 (.int .i64 at_) (.cons 3 (.int .u8 x) (.cons 4 (.slice junkA junk.length junkc) (.cons 12 (.slice A139 ((b ++ (Spec.encodeF x125.hard x125.h.term x125.h.vote x125.e.index x125.e.term x125.e.kind (cutB x125.e.data 300))).length) c140) (.cons 13 (.int .i64 ((i : Int) + 1)) .nil)))))))) (by repeat (first | exact Up.done | refine Up.then ?_ | refine Up.inBlock ?_)) rfl ?_
        exact ih119 (i + 1, A139, c140, (b ++ (Spec.encodeF x125.hard x125.h.term x125.h.vote x125.e.index x125.e.term x125.e.kind (cutB x125.e.data 300))), H141) ⟨(show (i + 1) ≤ rs.length from (by omega)), (show (i + 1) ≤ 8 from (by omega)), (show Spec.Bytes (b ++ (Spec.encodeF x125.hard x125.h.term x125.h.vote x125.e.index x125.e.term x125.e.kind (cutB x125.e.data 300))) from (hby.append (Spec.encodeF_bytes _ _ _ _ _ _ _))), (show (b ++ (Spec.encodeF x125.hard x125.h.term x125.h.vote x125.e.index x125.e.term x125.e.kind (cutB x125.e.data 300))).length ≤ 2550 * (i + 1) from (by rw [List.length_append]; exact Nat.le_trans (Nat.add_le_add hbl (Spec.encodeF_len _ _ _ _ _ _ _)) (by omega))), (show My H H141 A139 c140 1 ((b ++ (Spec.encodeF x125.hard x125.h.term x125.h.vote x125.e.index x125.e.term x125.e.kind (cutB x125.e.data 300))).map u8c) from hm144), (show Ext H H141 from hx147)⟩ (by simp only; omega)
      · rw [Bool.not_eq_true] at hc121; refine aw_condF hc121 rfl ?_
        try show aw _ _ _ _ _ _
        have hc121 := of_decide_eq_false hc121
        refine aw_exit ?_
        try show aw _ _ _ _ _ _
        refine aw_keep [1, 2, 3, 4, 12] (l' := (.cons 1 (.int .i64 cut) (.cons 2 (.int .i64 at_) (.cons 3 (.int .u8 x) (.cons 4 (.slice junkA junk.length junkc) (.cons 12 (.slice A b.length cp) .nil)))))) (by repeat (first | exact Up.done | refine Up.then ?_ | refine Up.inBlock ?_)) rfl ?_
        exact hJ8 (A, cp, b, Hl115) ⟨(show Spec.Bytes b from (by first | assumption | exact Spec.Bytes.nil | exact Spec.bytes_of _ | (repeat' first | assumption | exact Spec.Bytes.nil | exact Spec.bytes_of _ | exact Spec.enc_bytes _ | exact Spec.four_bytes _ | exact Spec.sealF_bytes (by assumption) | apply Spec.Bytes.append | apply Spec.Bytes.cons (by omega) | apply Spec.Bytes.take | apply Spec.Bytes.drop))), (show b.length ≤ 20400 from (by first | omega | (simp only [List.length_append, List.length_cons, List.length_nil, List.length_map, List.length_set, List.length_replicate, Spec.bytesOf_length]; omega) | (simp; omega))), (show My H Hl115 A cp 1 (b.map u8c) from hm117), (show Ext H Hl115 from hxl118)⟩
    ·
      have hb120 := of_decide_eq_false hb120
      refine st_skip rfl rfl rfl ?_
      refine st_skip rfl rfl rfl ?_
      refine st_op (ev_pickF rfl rfl) rfl rfl rfl ?_
      try show aw _ _ _ _ _ _
      refine aw_cond (t := false) rfl ?_
      try show aw _ _ _ _ _ _
      refine aw_exit ?_
      try show aw _ _ _ _ _ _
      refine aw_keep [1, 2, 3, 4, 12] (l' := (.cons 1 (.int .i64 cut) (.cons 2 (.int .i64 at_) (.cons 3 (.int .u8 x) (.cons 4 (.slice junkA junk.length junkc) (.cons 12 (.slice A b.length cp) .nil)))))) (by repeat (first | exact Up.done | refine Up.then ?_ | refine Up.inBlock ?_)) rfl ?_
      exact hJ8 (A, cp, b, Hl115) ⟨(show Spec.Bytes b from (by first | assumption | exact Spec.Bytes.nil | exact Spec.bytes_of _ | (repeat' first | assumption | exact Spec.Bytes.nil | exact Spec.bytes_of _ | exact Spec.enc_bytes _ | exact Spec.four_bytes _ | exact Spec.sealF_bytes (by assumption) | apply Spec.Bytes.append | apply Spec.Bytes.cons (by omega) | apply Spec.Bytes.take | apply Spec.Bytes.drop))), (show b.length ≤ 20400 from (by first | omega | (simp only [List.length_append, List.length_cons, List.length_nil, List.length_map, List.length_set, List.length_replicate, Spec.bytesOf_length]; omega) | (simp; omega))), (show My H Hl115 A cp 1 (b.map u8c) from hm117), (show Ext H Hl115 from hxl118)⟩

end Go.AM
