/- Part of a machine of its own for this claim: the program's code over memory without draws. -/
import Derived.Test.YtoamlagpnnmnhaaAmXLogB1
set_option linter.unusedVariables false
set_option linter.unusedSimpArgs false
set_option linter.unnecessarySimpa false
set_option linter.unusedVariables false
set_option linter.unusedSimpArgs false
set_option linter.unnecessarySimpa false
namespace Go.AM
open Go Go.Proofs
theorem ref21_Put_spec (H : Heap) (x : Int) (hx : 0 ≤ x ∧ x ≤ 2199023255552) (tm : Int) (cf : ByteArray) (hcf : cf.size ≤ 1073741824) (dt : ByteArray) (lA : Option Addr) (l : List Entry) (lc : Nat) (hl : Row H lA lc 4 (l.map Entry.cells)) (cl : l.length ≤ lc) (ll : l.length ≤ 200) (uk : Spec.LogOk x tm l) (usA : Option Addr) (us : List Entry) (usc : Nat) (hus : Row H usA usc 4 (us.map Entry.cells)) (cus : us.length ≤ usc) (lus : us.length ≤ 1048576) (bus : Spec.Ents us) : ∃ v H', Spec Try.prog 22 [.agg #[.int .i64 x, .int .i64 tm, .string cf, .string dt, .slice lA l.length lc], .slice usA us.length usc] H v H' ∧ (∃ rA4 rc4, (v = .tuple #[.agg #[.int .i64 x, .int .i64 tm, .string cf, .string dt, .slice rA4 (((Spec.putF x tm l us).2.2).length) rc4], .int .i64 ((Spec.putF x tm l us).1), .bool ((Spec.putF x tm l us).2.1)]) ∧ (Row H' rA4 rc4 4 (((Spec.putF x tm l us).2.2).map Entry.cells)) ∧ (((Spec.putF x tm l us).2.2).length ≤ rc4) ∧ (Spec.LogOk x tm (Spec.putF x tm l us).2.2) ∧ ((Spec.putF x tm l us).2.2.length ≤ 200) ∧ ((((Spec.putF x tm l us).2.2.length : Nat) : Int) ≤ (l.length : Int) + (us.length : Int)) ∧ (Ext H H')) := by
 refine spec_go2 E0_ok 128 (f := 22) Try.func22 rfl rfl rfl ?_
 refine aw_seq ?_
 refine aw_reg ?_
 obtain ⟨b1, H2, he3, b1e, H2n_, hB5, f4⟩ := mem_box (P := Try.prog) H (v := .agg #[.int .i64 x, .int .i64 tm, .string cf, .string dt, .slice lA l.length lc]) (cs := [.int .i64 x, .int .i64 tm, .string cf, .string dt, .slice lA l.length lc]) rfl rfl
 refine st_op (he3 _ _ _ _ _ _ _ _ _ rfl) rfl rfl rfl ?_
 have hx6 : Ext H H2 := Ext.new (by omega) H2n_ f4
 have H2n : H.next ≤ H2.next := hx6.1
 obtain ⟨b7, H8, he9, b7e, H8n_, hB11, f10⟩ := mem_alloc H2 zero49
 refine st_op (he9 _ _ _ _ _ _ _) rfl rfl rfl ?_
 have hx12 : Ext H2 H8 := Ext.new (by omega) H8n_ f10
 have H8n : H2.next ≤ H8.next := hx12.1
 iterate 2 refine st_op (ev_assign rfl) rfl rfl rfl ?_
 try show aw _ _ _ _ _ _
 iterate 2 refine aw_seq ?_
 refine aw_reg ?_
 refine st_op (ev_move rfl) rfl rfl rfl ?_
 refine st_op (ev_lenSl rfl Try.underlying24) rfl rfl rfl ?_
 refine st_op (ev_int rfl rfl rfl) rfl rfl rfl ?_
 try show aw _ _ _ _ _ _
 by_cases hc13 : ((us.length : Int) == 0) = true
 ·
  refine aw_condT hc13 rfl ?_
  try show aw _ _ _ _ _ _
  have hc13 := eq_of_beq hc13
  refine aw_seq ?_
  refine aw_reg ?_
  have h14 := Ext.blk hx12 (by omega) hB5
  refine st_op (ev_load rfl (lvar_part (l := [.int .i64 x, .int .i64 tm, .string cf, .string dt, .slice lA l.length lc]) many49 h14 rfl rfl (by decide))) rfl rfl rfl ?_
  obtain ⟨H15, he16, H15n_, hB17, f18⟩ := mem_store (v := .agg #[.int .i64 x, .int .i64 tm, .string cf, .string dt, .slice lA l.length lc]) (o := 0) (cs' := [.int .i64 x, .int .i64 tm, .string cf, .string dt, .slice lA l.length lc]) 5 rfl rfl size49 hB11 rfl rfl rfl
  refine st_op0 (he16 _ _ _ _ _ _ _ _ _ rfl rfl) rfl rfl ?_
  have hf19 : Fr (fun q => q = b7) H8 H15 := Fr.write H15n_ f18
  have H15n : H8.next ≤ H15.next := hf19.1
  iterate 2 refine st_op (ev_assign rfl) rfl rfl rfl ?_
  try show aw _ _ _ _ _ _
  refine aw_ret ?_
  have hx21 : Ext H H15 := (Ext.then (Ext.trans hx6 hx12) hf19 (fun q hq e => by omega))
  have h20 := Row.ext hl hx21
  have hres : (Spec.putF x tm l us) = (0, true, l) := by (obtain rfl : us = [] := List.eq_nil_of_length_eq_zero (by omega)); rfl
  exact ⟨.tuple #[.agg #[.int .i64 x, .int .i64 tm, .string cf, .string dt, .slice lA l.length lc], .int .i64 0, .bool true], (resA_of (resL_cell rfl (lvar_part (l := [.int .i64 x, .int .i64 tm, .string cf, .string dt, .slice lA l.length lc]) many49 hB17 rfl rfl (by decide)) (resL_tmp rfl (resL_tmp rfl resL_nil))) rfl), lA, lc, by first | (rw [hres]; first | done | rfl | simp; done) | rfl, (by rw [hres]; exact h20), (by rw [hres]; exact cl), (by exact Spec.put_ok uk bus), (by exact Spec.put_len uk bus), (by exact Spec.put_last), hx21⟩
 ·
  rw [Bool.not_eq_true] at hc13; refine aw_condF hc13 rfl ?_
  try show aw _ _ _ _ _ _
  have hc13 := ne_of_beq_false hc13
  refine aw_skip ?_
  try show aw _ _ _ _ _ _
  iterate 2 refine aw_seq ?_
  refine aw_marks (fun b => b < H8.next) [(false, false), (false, false), (false, false), (true, false), (false, false), (false, true), (false, false), (false, false)] mixed (by kernel_rfl) (by kernel_rfl) ?_
  refine sm_op (ev_move rfl) rfl rfl rfl ?_
  have hx23 : Ext H H8 := (Ext.trans hx6 hx12)
  have h22 := Row.ext hus hx23
  have hi24 : 0 ≤ (0 : Int) := by omega
  have hi25 : (0 : Int) < ((us.length : Nat) : Int) := by omega
  obtain ⟨x26, hx27⟩ : ∃ e, us[0]? = some e := ⟨_, List.getElem?_eq_getElem (by omega)⟩
  refine sm_op (ev_at rfl rfl h22 (getMap Entry.cells hx27) (by first | rfl | omega | simp) hi24 hi25 el24) rfl rfl rfl ?_
  refine sm_op (ev_atF rfl h22 (getMap Entry.cells hx27) fa37_0 rfl) rfl rfl rfl ?_
  refine sm_read (ev_atL rfl h22 (getMap Entry.cells hx27) one2 rfl) rfl rfl rfl (fun q hq => Nat.lt_of_lt_of_le (rd_at rfl rfl h22 (getMap Entry.cells hx27) hq) (by omega)) ?_
  have h28 := Ext.blk hx12 (by omega) hB5
  refine sm_op (ev_load rfl (lvar_part (l := [.int .i64 x, .int .i64 tm, .string cf, .string dt, .slice lA l.length lc]) many49 h28 rfl rfl (by decide))) rfl rfl rfl ?_
  refine sm_call rfl rfl rfl ent39 rfl rfl rfl ?_
  have h29 := Row.ext hl hx23
  obtain ⟨_, H31, hs30, hs30v, hx32⟩ := ref21_Last_spec H8 x ⟨by omega, by omega⟩ tm cf (by omega) dt lA l lc h29 cl (by omega) (by assumption)
  rw [hs30v] at hs30; clear hs30v
  refine ⟨_, H31, hs30, (fun _ b hb => hx32.2 b (by omega)), ?_⟩
  have H31n : H8.next ≤ H31.next := hx32.1
  refine sm_op (ev_int64 (c := (x + (l.length : Int)) + 1) rfl rfl rfl (by omega) (by omega)) rfl rfl rfl ?_
  refine sm_op (ev_int rfl rfl rfl) rfl rfl rfl ?_
  try show aw _ _ _ _ _ _
  by_cases hc33 : (decide (x26.index > (x + (l.length : Int)) + 1)) = true
  ·
   refine aw_condT hc33 rfl ?_
   try show aw _ _ _ _ _ _
   have hc33 := of_decide_eq_true hc33
   refine aw_seq ?_
   refine aw_reg ?_
   have h34 := Ext.blk hx32 (by omega) h28
   refine st_op (ev_load rfl (lvar_part (l := [.int .i64 x, .int .i64 tm, .string cf, .string dt, .slice lA l.length lc]) many49 h34 rfl rfl (by decide))) rfl rfl rfl ?_
   have h35 := Ext.blk hx32 (by omega) hB11
   obtain ⟨H36, he37, H36n_, hB38, f39⟩ := mem_store (v := .agg #[.int .i64 x, .int .i64 tm, .string cf, .string dt, .slice lA l.length lc]) (o := 0) (cs' := [.int .i64 x, .int .i64 tm, .string cf, .string dt, .slice lA l.length lc]) 5 rfl rfl size49 h35 rfl rfl rfl
   refine st_op0 (he37 _ _ _ _ _ _ _ _ _ rfl rfl) rfl rfl ?_
   have hf40 : Fr (fun q => q = b7) H31 H36 := Fr.write H36n_ f39
   have H36n : H31.next ≤ H36.next := hf40.1
   iterate 2 refine st_op (ev_assign rfl) rfl rfl rfl ?_
   try show aw _ _ _ _ _ _
   refine aw_ret ?_
   have hx42 : Ext H H36 := (Ext.then (Ext.trans hx23 hx32) hf40 (fun q hq e => by omega))
   have h41 := Row.ext hl hx42
   have hres : (Spec.putF x tm l us) = (0, false, l) := by exact Spec.put_bad hx27 (.inl (by omega))
   exact ⟨.tuple #[.agg #[.int .i64 x, .int .i64 tm, .string cf, .string dt, .slice lA l.length lc], .int .i64 0, .bool false], (resA_of (resL_cell rfl (lvar_part (l := [.int .i64 x, .int .i64 tm, .string cf, .string dt, .slice lA l.length lc]) many49 hB38 rfl rfl (by decide)) (resL_tmp rfl (resL_tmp rfl resL_nil))) rfl), lA, lc, by first | (rw [hres]; first | done | rfl | simp; done) | rfl, (by rw [hres]; exact h41), (by rw [hres]; exact cl), (by exact Spec.put_ok uk bus), (by exact Spec.put_len uk bus), (by exact Spec.put_last), hx42⟩
  ·
   rw [Bool.not_eq_true] at hc33; refine aw_condF hc33 rfl ?_
   try show aw _ _ _ _ _ _
   have hc33 := of_decide_eq_false hc33
   refine aw_skip ?_
   try show aw _ _ _ _ _ _
   iterate 2 refine aw_seq ?_
   refine aw_reg ?_
   refine st_op (ev_assign rfl) rfl rfl rfl ?_
   try show aw _ _ _ _ _ _
   refine aw_block ?_
   refine aw_keep [1, 2, 4, 7] (l' := (.cons 1 (.slice usA us.length usc) (.cons 2 (.pointer (some ⟨b1, 0, none⟩)) (.cons 4 (.pointer (some ⟨b7, 0, none⟩)) (.cons 7 (.int .i64 1) .nil))))) (by repeat (first | exact Up.done | refine Up.then ?_ | refine Up.inBlock ?_)) rfl ?_
   refine aw_iter (α := Nat × Entry × Heap) (fun a => us.length - a.1) (fun a => (.cons 1 (.slice usA us.length usc) (.cons 2 (.pointer (some ⟨b1, 0, none⟩)) (.cons 4 (.pointer (some ⟨b7, 0, none⟩)) (.cons 7 (.int .i64 (a.1 : Int)) .nil))))) (fun a => a.2.2) (fun a => (1 ≤ a.1 ∧ a.1 ≤ us.length) ∧ (us[a.1 - 1]? = some a.2.1) ∧ (Spec.logRow (IntKind.i64.wrap (x26.index - 1)) x26.term us = Spec.logRow a.2.1.index a.2.1.term (us.drop a.1)) ∧ (Ext H31 a.2.2)) (1, x26, H31) ⟨(show 1 ≤ 1 ∧ 1 ≤ us.length from ⟨Nat.le_refl _, by omega⟩), (show us[1 - 1]? = some x26 from hx27), (show Spec.logRow (IntKind.i64.wrap (x26.index - 1)) x26.term us = Spec.logRow x26.index x26.term (us.drop 1) from (Spec.row_first hx27 (bus _ (List.mem_of_getElem? hx27)).1)), (show Ext H31 H31 from (Ext.refl H31))⟩ ?_
   rintro ⟨i, pv, Hl43⟩ ⟨hi, hpv, hv, hxl44⟩ ih45
   replace hi : 1 ≤ i ∧ i ≤ us.length := hi
   replace hpv : us[i - 1]? = some pv := hpv
   replace hv : Spec.logRow (IntKind.i64.wrap (x26.index - 1)) x26.term us = Spec.logRow pv.index pv.term (us.drop i) := hv
   replace hxl44 : Ext H31 Hl43 := hxl44
   show aw _ _ _ (RL _ (.cons 1 (.slice usA us.length usc) (.cons 2 (.pointer (some ⟨b1, 0, none⟩)) (.cons 4 (.pointer (some ⟨b7, 0, none⟩)) (.cons 7 (.int .i64 (i : Int)) .nil))))) Hl43 _
   have Hl43n : H31.next ≤ Hl43.next := hxl44.1
   iterate 2 refine aw_seq ?_
   refine aw_reg ?_
   iterate 2 refine st_op (ev_move rfl) rfl rfl rfl ?_
   refine st_op (ev_lenSl rfl Try.underlying24) rfl rfl rfl ?_
   refine st_op (ev_int rfl rfl rfl) rfl rfl rfl ?_
   try show aw _ _ _ _ _ _
   by_cases hc46 : (decide ((i : Int) < (us.length : Int))) = true
   ·
    refine aw_condT hc46 rfl ?_
    try show aw _ _ _ _ _ _
    have hc46 := of_decide_eq_true hc46
    refine aw_skip ?_
    try show aw _ _ _ _ _ _
    refine aw_seq ?_
    refine aw_block ?_
    refine aw_seq ?_
    refine aw_marks (fun b => b < Hl43.next) [(false, false), (false, false), (false, false), (false, false), (false, false), (false, false), (false, false), (false, false), (false, false), (false, false), (false, false), (false, false), (false, false), (false, false), (false, false), (false, false), (false, false), (false, false), (false, false), (false, false), (false, false), (false, false), (false, false), (false, false), (false, false), (false, false), (false, false)] mixed (by kernel_rfl) (by kernel_rfl) ?_
    iterate 2 refine sm_op (ev_move rfl) rfl rfl rfl ?_
    have hx48 : Ext H8 Hl43 := (Ext.trans hx32 hxl44)
    have h47 := Row.ext h22 hx48
    have hi49 : 0 ≤ ((i : Int) : Int) := by omega
    have hi50 : ((i : Int) : Int) < ((us.length : Nat) : Int) := by omega
    obtain ⟨x51, hx52⟩ : ∃ e, us[i]? = some e := ⟨_, List.getElem?_eq_getElem (by omega)⟩
    refine sm_op (ev_at rfl rfl h47 (getMap Entry.cells hx52) (by first | rfl | omega | simp) hi49 hi50 el24) rfl rfl rfl ?_
    refine sm_op (ev_atF rfl h47 (getMap Entry.cells hx52) fa37_0 rfl) rfl rfl rfl ?_
    refine sm_op (ev_atL rfl h47 (getMap Entry.cells hx52) one2 rfl) rfl rfl rfl ?_
    iterate 2 refine sm_op (ev_move rfl) rfl rfl rfl ?_
    refine sm_op (ev_int64 (c := (i : Int) - 1) rfl rfl rfl (by omega) (by omega)) rfl rfl rfl ?_
    have hi53 : 0 ≤ ((i : Int) - 1 : Int) := by omega
    have hi54 : ((i : Int) - 1 : Int) < ((us.length : Nat) : Int) := by omega
    obtain ⟨x55, hx56⟩ : ∃ e, us[(((i : Int) - 1)).toNat]? = some e := ⟨_, List.getElem?_eq_getElem (by omega)⟩
    have x55p : x55 = pv := by have q := hpv; rw [show (((((i : Int) - 1)).toNat) : Nat) = i - 1 by omega] at hx56; rw [hx56] at q; cases q; rfl
    subst x55p
    refine sm_op (ev_at rfl rfl h47 (getMap Entry.cells hx56) (by first | rfl | omega | simp) hi53 hi54 el24) rfl rfl rfl ?_
    refine sm_op (ev_atF rfl h47 (getMap Entry.cells hx56) fa37_0 rfl) rfl rfl rfl ?_
    refine sm_op (ev_atL rfl h47 (getMap Entry.cells hx56) one2 rfl) rfl rfl rfl ?_
    iterate 2 refine sm_op (ev_int rfl rfl rfl) rfl rfl rfl ?_
    refine sm_op (ev_move rfl) rfl rfl rfl ?_
    refine sm_bool 46 rfl (fun hb57 => ?_) (fun hb57 => ?_)
    ·
     have hb57 : ¬ (x51.index = (IntKind.i64.wrap (x55.index + 1))) := by simpa using hb57
     iterate 12 refine sm_skip rfl rfl rfl ?_
     refine sm_op (ev_pickT rfl rfl) rfl rfl rfl ?_
     try show aw _ _ _ _ _ _
     refine aw_cond (t := true) rfl ?_
     try show aw _ _ _ _ _ _
     refine aw_seq ?_
     refine aw_reg ?_
     have h58 := Ext.blk hx48 (by omega) h28
     refine st_op (ev_load rfl (lvar_part (l := [.int .i64 x, .int .i64 tm, .string cf, .string dt, .slice lA l.length lc]) many49 h58 rfl rfl (by decide))) rfl rfl rfl ?_
     have h59 := Ext.blk hx48 (by omega) hB11
     obtain ⟨H60, he61, H60n_, hB62, f63⟩ := mem_store (v := .agg #[.int .i64 x, .int .i64 tm, .string cf, .string dt, .slice lA l.length lc]) (o := 0) (cs' := [.int .i64 x, .int .i64 tm, .string cf, .string dt, .slice lA l.length lc]) 5 rfl rfl size49 h59 rfl rfl rfl
     refine st_op0 (he61 _ _ _ _ _ _ _ _ _ rfl rfl) rfl rfl ?_
     have hf64 : Fr (fun q => q = b7) Hl43 H60 := Fr.write H60n_ f63
     have H60n : Hl43.next ≤ H60.next := hf64.1
     iterate 2 refine st_op (ev_assign rfl) rfl rfl rfl ?_
     try show aw _ _ _ _ _ _
     refine aw_ret ?_
     have hx66 : Ext H H60 := (Ext.then (Ext.trans (Ext.trans hx23 hx32) hxl44) hf64 (fun q hq e => by omega))
     have h65 := Row.ext hl hx66
     have hres : (Spec.putF x tm l us) = (0, false, l) := by exact Spec.put_bad hx27 (.inr (by rw [hv]; exact Spec.logRow_fail hx52 (by first | exact .inr (by omega) | exact .inl (by assumption))))
     exact ⟨.tuple #[.agg #[.int .i64 x, .int .i64 tm, .string cf, .string dt, .slice lA l.length lc], .int .i64 0, .bool false], (resA_of (resL_cell rfl (lvar_part (l := [.int .i64 x, .int .i64 tm, .string cf, .string dt, .slice lA l.length lc]) many49 hB62 rfl rfl (by decide)) (resL_tmp rfl (resL_tmp rfl resL_nil))) rfl), lA, lc, by first | (rw [hres]; first | done | rfl | simp; done) | rfl, (by rw [hres]; exact h65), (by rw [hres]; exact cl), (by exact Spec.put_ok uk bus), (by exact Spec.put_len uk bus), (by exact Spec.put_last), hx66⟩
    ·
     have hb57 : (x51.index = (IntKind.i64.wrap (x55.index + 1))) := by simpa using hb57
     iterate 2 refine sm_op (ev_move rfl) rfl rfl rfl ?_
     have hi67 : 0 ≤ ((i : Int) : Int) := by omega
     have hi68 : ((i : Int) : Int) < ((us.length : Nat) : Int) := by omega
     refine sm_op (ev_at rfl rfl h47 (getMap Entry.cells hx52) (by first | rfl | omega | simp) hi67 hi68 el24) rfl rfl rfl ?_
     refine sm_op (ev_atF rfl h47 (getMap Entry.cells hx52) fa37_1 rfl) rfl rfl rfl ?_
     refine sm_op (ev_atL rfl h47 (getMap Entry.cells hx52) one2 rfl) rfl rfl rfl ?_
     iterate 2 refine sm_op (ev_move rfl) rfl rfl rfl ?_
     refine sm_op (ev_int64 (c := (i : Int) - 1) rfl rfl rfl (by omega) (by omega)) rfl rfl rfl ?_
     have hi69 : 0 ≤ ((i : Int) - 1 : Int) := by omega
     have hi70 : ((i : Int) - 1 : Int) < ((us.length : Nat) : Int) := by omega
     refine sm_op (ev_at rfl rfl h47 (getMap Entry.cells hx56) (by first | rfl | omega | simp) hi69 hi70 el24) rfl rfl rfl ?_
     refine sm_op (ev_atF rfl h47 (getMap Entry.cells hx56) fa37_1 rfl) rfl rfl rfl ?_
     refine sm_op (ev_atL rfl h47 (getMap Entry.cells hx56) one2 rfl) rfl rfl rfl ?_
     refine sm_op (ev_int rfl rfl rfl) rfl rfl rfl ?_
     refine sm_op (ev_pickF rfl rfl) rfl rfl rfl ?_
     try show aw _ _ _ _ _ _
     by_cases hc71 : (decide (x51.term < x55.term)) = true
     ·
      refine aw_condT hc71 rfl ?_
      try show aw _ _ _ _ _ _
      have hc71 := of_decide_eq_true hc71
      refine aw_seq ?_
      refine aw_reg ?_
      have h72 := Ext.blk hx48 (by omega) h28
      refine st_op (ev_load rfl (lvar_part (l := [.int .i64 x, .int .i64 tm, .string cf, .string dt, .slice lA l.length lc]) many49 h72 rfl rfl (by decide))) rfl rfl rfl ?_
      have h73 := Ext.blk hx48 (by omega) hB11
      obtain ⟨H74, he75, H74n_, hB76, f77⟩ := mem_store (v := .agg #[.int .i64 x, .int .i64 tm, .string cf, .string dt, .slice lA l.length lc]) (o := 0) (cs' := [.int .i64 x, .int .i64 tm, .string cf, .string dt, .slice lA l.length lc]) 5 rfl rfl size49 h73 rfl rfl rfl
      refine st_op0 (he75 _ _ _ _ _ _ _ _ _ rfl rfl) rfl rfl ?_
      have hf78 : Fr (fun q => q = b7) Hl43 H74 := Fr.write H74n_ f77
      have H74n : Hl43.next ≤ H74.next := hf78.1
      iterate 2 refine st_op (ev_assign rfl) rfl rfl rfl ?_
      try show aw _ _ _ _ _ _
      refine aw_ret ?_
      have hx80 : Ext H H74 := (Ext.then (Ext.trans (Ext.trans hx23 hx32) hxl44) hf78 (fun q hq e => by omega))
      have h79 := Row.ext hl hx80
      have hres : (Spec.putF x tm l us) = (0, false, l) := by exact Spec.put_bad hx27 (.inr (by rw [hv]; exact Spec.logRow_fail hx52 (by first | exact .inr (by omega) | exact .inl (by assumption))))
      exact ⟨.tuple #[.agg #[.int .i64 x, .int .i64 tm, .string cf, .string dt, .slice lA l.length lc], .int .i64 0, .bool false], (resA_of (resL_cell rfl (lvar_part (l := [.int .i64 x, .int .i64 tm, .string cf, .string dt, .slice lA l.length lc]) many49 hB76 rfl rfl (by decide)) (resL_tmp rfl (resL_tmp rfl resL_nil))) rfl), lA, lc, by first | (rw [hres]; first | done | rfl | simp; done) | rfl, (by rw [hres]; exact h79), (by rw [hres]; exact cl), (by exact Spec.put_ok uk bus), (by exact Spec.put_len uk bus), (by exact Spec.put_last), hx80⟩
     ·
      rw [Bool.not_eq_true] at hc71; refine aw_condF hc71 rfl ?_
      try show aw _ _ _ _ _ _
      have hc71 := of_decide_eq_false hc71
      refine aw_skip ?_
      try show aw _ _ _ _ _ _
      refine aw_reg ?_
      refine st_op (ev_move rfl) rfl rfl rfl ?_
      refine st_op (ev_int64 (c := (i : Int) + 1) rfl rfl rfl (by omega) (by omega)) rfl rfl rfl ?_
      refine st_op (ev_assign rfl) rfl rfl rfl ?_
      try show aw _ _ _ _ _ _
      refine aw_keep [1, 2, 4, 7] (l' := (.cons 1 (.slice usA us.length usc) (.cons 2 (.pointer (some ⟨b1, 0, none⟩)) (.cons 4 (.pointer (some ⟨b7, 0, none⟩)) (.cons 7 (.int .i64 ((i : Int) + 1)) .nil))))) (by repeat (first | exact Up.done | refine Up.then ?_ | refine Up.inBlock ?_)) rfl ?_
      exact ih45 (i + 1, x51, Hl43) ⟨(show 1 ≤ (i + 1) ∧ (i + 1) ≤ us.length from ⟨by omega, by omega⟩), (show us[(i + 1) - 1]? = some x51 from (by rw [Nat.add_sub_cancel]; exact hx52)), (show Spec.logRow (IntKind.i64.wrap (x26.index - 1)) x26.term us = Spec.logRow x51.index x51.term (us.drop (i + 1)) from (by rw [hv]; exact Spec.logRow_step hx52 (by first | assumption | omega | (simp_all; done)) (by first | assumption | omega | (simp_all; done)))), (show Ext H31 Hl43 from hxl44)⟩ (by simp only; omega)
   ·
    rw [Bool.not_eq_true] at hc46; refine aw_condF hc46 rfl ?_
    try show aw _ _ _ _ _ _
    have hc46 := of_decide_eq_false hc46
    refine aw_exit ?_
    try show aw _ _ _ _ _ _
    iterate 2 refine aw_seq ?_
    refine aw_reg ?_
    refine st_op (ev_assign rfl) rfl rfl rfl ?_
    try show aw _ _ _ _ _ _
    refine aw_block ?_
    have hrok : Spec.logRow (IntKind.i64.wrap (x26.index - 1)) x26.term us = true := by rw [hv, List.drop_eq_nil_of_le (by omega)]; rfl
    refine aw_keep [1, 2, 4, 8] (l' := (.cons 1 (.slice usA us.length usc) (.cons 2 (.pointer (some ⟨b1, 0, none⟩)) (.cons 4 (.pointer (some ⟨b7, 0, none⟩)) (.cons 8 (.int .i64 0) .nil))))) (by repeat (first | exact Up.done | refine Up.then ?_ | refine Up.inBlock ?_)) rfl ?_
    refine aw_iter (α := Nat × Heap) (fun a => us.length - a.1) (fun a => (.cons 1 (.slice usA us.length usc) (.cons 2 (.pointer (some ⟨b1, 0, none⟩)) (.cons 4 (.pointer (some ⟨b7, 0, none⟩)) (.cons 8 (.int .i64 (a.1 : Int)) .nil))))) (fun a => a.2) (fun a => (a.1 ≤ us.length) ∧ (us.dropWhile (Spec.stays x tm l) = (us.drop a.1).dropWhile (Spec.stays x tm l)) ∧ (Spec.conseq (us.drop a.1)) ∧ (∀ u, us[a.1]? = some u → u.index ≤ x + l.length + 1) ∧ (Ext Hl43 a.2)) (0, Hl43) ⟨(show 0 ≤ us.length from Nat.zero_le _), (show us.dropWhile (Spec.stays x tm l) = (us.drop 0).dropWhile (Spec.stays x tm l) from rfl), (show Spec.conseq (us.drop 0) from (Spec.row_conseq hrok)), (show ∀ u, us[0]? = some u → u.index ≤ x + l.length + 1 from (fun u hu => by rw [hx27] at hu; cases hu; omega)), (show Ext Hl43 Hl43 from (Ext.refl Hl43))⟩ ?_
    rintro ⟨j, Hl81⟩ ⟨hj, hv2, hcq, hK, hxl82⟩ ih83
    replace hj : j ≤ us.length := hj
    replace hv2 : us.dropWhile (Spec.stays x tm l) = (us.drop j).dropWhile (Spec.stays x tm l) := hv2
    replace hcq : Spec.conseq (us.drop j) := hcq
    replace hK : ∀ u, us[j]? = some u → u.index ≤ x + l.length + 1 := hK
    replace hxl82 : Ext Hl43 Hl81 := hxl82
    show aw _ _ _ (RL _ (.cons 1 (.slice usA us.length usc) (.cons 2 (.pointer (some ⟨b1, 0, none⟩)) (.cons 4 (.pointer (some ⟨b7, 0, none⟩)) (.cons 8 (.int .i64 (j : Int)) .nil))))) Hl81 _
    have Hl81n : Hl43.next ≤ Hl81.next := hxl82.1
    iterate 2 refine aw_seq ?_
    refine aw_reg ?_
    iterate 2 refine st_op (ev_move rfl) rfl rfl rfl ?_
    refine st_op (ev_lenSl rfl Try.underlying24) rfl rfl rfl ?_
    refine st_op (ev_int rfl rfl rfl) rfl rfl rfl ?_
    try show aw _ _ _ _ _ _
    by_cases hc84 : (decide ((j : Int) < (us.length : Int))) = true
    ·
     refine aw_condT hc84 rfl ?_
     try show aw _ _ _ _ _ _
     have hc84 := of_decide_eq_true hc84
     refine aw_skip ?_
     try show aw _ _ _ _ _ _
     refine aw_seq ?_
     refine aw_block ?_
     refine aw_seq ?_
     refine aw_reg ?_
     iterate 2 refine st_op (ev_move rfl) rfl rfl rfl ?_
     have hx86 : Ext H8 Hl81 := (Ext.trans (Ext.trans hx32 hxl44) hxl82)
     have h85 := Row.ext h22 hx86
     have hi87 : 0 ≤ ((j : Int) : Int) := by omega
     have hi88 : ((j : Int) : Int) < ((us.length : Nat) : Int) := by omega
     obtain ⟨x89, hx90⟩ : ∃ e, us[j]? = some e := ⟨_, List.getElem?_eq_getElem (by omega)⟩
     have x89k := hK _ hx90; have x89w := (bus _ (List.mem_of_getElem? hx90)).1
     refine st_op (ev_at rfl rfl h85 (getMap Entry.cells hx90) (by first | rfl | omega | simp) hi87 hi88 el24) rfl rfl rfl ?_
     refine st_op (ev_atN (cs := [.int .i64 x89.index, .int .i64 x89.term, .int .i64 x89.kind, .string x89.data]) rfl h85 (getMap Entry.cells hx90) many37 rfl rfl (by decide)) rfl rfl rfl ?_
     obtain ⟨b91, H92, he93, b91e, H92n_, hB95, f94⟩ := mem_alloc Hl81 zero37
     refine st_op (he93 _ _ _ _ _ _ _) rfl rfl rfl ?_
     have hx96 : Ext Hl81 H92 := Ext.new (by omega) H92n_ f94
     have H92n : Hl81.next ≤ H92.next := hx96.1
     obtain ⟨H97, he98, H97n_, hB99, f100⟩ := mem_store (v := .agg #[.int .i64 x89.index, .int .i64 x89.term, .int .i64 x89.kind, .string x89.data]) (o := 0) (cs' := [.int .i64 x89.index, .int .i64 x89.term, .int .i64 x89.kind, .string x89.data]) 4 rfl rfl size37 hB95 rfl rfl rfl
     refine st_op0 (he98 _ _ _ _ _ _ _ _ _ rfl rfl) rfl rfl ?_
     have hf101 : Fr (fun q => q = b91) H92 H97 := Fr.write H97n_ f100
     have H97n : H92.next ≤ H97.next := hf101.1
     try show aw _ _ _ _ _ _
     iterate 2 refine aw_seq ?_
     refine aw_reg ?_
     refine st_op (ev_fieldAddr rfl fa37_0 (o' := 0) rfl) rfl rfl rfl ?_
     refine st_op (ev_load rfl (lvar_one one2 hB99 rfl)) rfl rfl rfl ?_
     refine st_op (ev_fieldAddr rfl fa49_0 (o' := 0) rfl) rfl rfl rfl ?_
     refine st_op (ev_fieldAddr rfl fa23_0 (o' := 0) rfl) rfl rfl rfl ?_
     have hx103 : Ext H8 H97 := (Ext.then (Ext.trans hx86 hx96) hf101 (fun q hq e => by omega))
     have h102 := Ext.blk hx103 (by omega) h28
     refine st_op (ev_load rfl (lvar_one one2 h102 rfl)) rfl rfl rfl ?_
     refine st_op (ev_int rfl rfl rfl) rfl rfl rfl ?_
     refine st_op (ev_move rfl) rfl rfl rfl ?_
     refine st_bool 77 rfl (fun hb104 => ?_) (fun hb104 => ?_)
     ·
      have hb104 := of_decide_eq_true hb104
      iterate 6 refine st_skip rfl rfl rfl ?_
      refine st_op (ev_pickT rfl rfl) rfl rfl rfl ?_
      try show aw _ _ _ _ _ _
      refine aw_cond (t := true) rfl ?_
      try show aw _ _ _ _ _ _
      refine aw_exit ?_
      try show aw _ _ _ _ _ _
      refine aw_reg ?_
      refine st_op (ev_move rfl) rfl rfl rfl ?_
      refine st_op (ev_int64 (c := (j : Int) + 1) rfl rfl rfl (by omega) (by omega)) rfl rfl rfl ?_
      refine st_op (ev_assign rfl) rfl rfl rfl ?_
      try show aw _ _ _ _ _ _
      have hst : Spec.stays x tm l x89 = true := by simp only [Spec.stays, Bool.or_eq_true, decide_eq_true_eq]; first | exact .inl (by omega) | exact .inr (by assumption)
      have hcq1 : Spec.conseq (x89 :: us.drop (j + 1)) := by have q := hcq; rw [drop_at hx90] at q; exact q
      have hx105 : Ext Hl43 H97 := (Ext.then (Ext.trans hxl82 hx96) hf101 (fun q hq e => by omega))
      refine aw_keep [1, 2, 4, 8] (l' := (.cons 1 (.slice usA us.length usc) (.cons 2 (.pointer (some ⟨b1, 0, none⟩)) (.cons 4 (.pointer (some ⟨b7, 0, none⟩)) (.cons 8 (.int .i64 ((j : Int) + 1)) .nil))))) (by repeat (first | exact Up.done | refine Up.then ?_ | refine Up.inBlock ?_)) rfl ?_
      exact ih83 (j + 1, H97) ⟨(show (j + 1) ≤ us.length from (by omega)), (show us.dropWhile (Spec.stays x tm l) = (us.drop (j + 1)).dropWhile (Spec.stays x tm l) from (by rw [hv2, drop_at hx90, List.dropWhile_cons_of_pos hst])), (show Spec.conseq (us.drop (j + 1)) from (Spec.conseq_tail hcq1)), (show ∀ u, us[(j + 1)]? = some u → u.index ≤ x + l.length + 1 from (fun u hu => Spec.next_le (m := x + l.length) hcq1 x89w.1 (by first | omega | exact Spec.fits_le (by assumption)) (by omega) u (by rw [List.getElem?_drop]; simpa using hu))), (show Ext Hl43 H97 from hx105)⟩ (by simp only; omega)
     ·
      have hb104 := of_decide_eq_false hb104
      refine st_op (ev_load rfl (lvar_part (l := [.int .i64 x, .int .i64 tm, .string cf, .string dt, .slice lA l.length lc]) many49 h102 rfl rfl (by decide))) rfl rfl rfl ?_
      refine st_op (ev_fieldAddr rfl fa37_0 (o' := 0) rfl) rfl rfl rfl ?_
      refine st_op (ev_load rfl (lvar_one one2 hB99 rfl)) rfl rfl rfl ?_
      refine st_op (ev_fieldAddr rfl fa37_1 (o' := 1) rfl) rfl rfl rfl ?_
      refine st_op (ev_load rfl (lvar_one one2 hB99 rfl)) rfl rfl rfl ?_
      refine st_call rfl rfl rfl ent28 rfl rfl rfl ?_
      have h106 := Row.ext h29 hx103
      obtain ⟨_, H108, hs107, hs107v, hx109⟩ := ref21_Fits_spec H97 x ⟨by omega, by omega⟩ tm cf (by omega) dt lA l lc h106 cl (by omega) (by assumption) x89.index x89.term
      rw [hs107v] at hs107; clear hs107v
      refine ⟨_, H108, hs107, ?_⟩
      have H108n : H97.next ≤ H108.next := hx109.1
      refine st_op (ev_pickF rfl rfl) rfl rfl rfl ?_
      try show aw _ _ _ _ _ _
      by_cases hc110 : (Spec.fitsF x tm l x89.index x89.term) = true
      ·
       refine aw_condT hc110 rfl ?_
       try show aw _ _ _ _ _ _
       have hc110m := Spec.fits_le hc110
       refine aw_exit ?_
       try show aw _ _ _ _ _ _
       refine aw_reg ?_
       refine st_op (ev_move rfl) rfl rfl rfl ?_
       refine st_op (ev_int64 (c := (j : Int) + 1) rfl rfl rfl (by omega) (by omega)) rfl rfl rfl ?_
       refine st_op (ev_assign rfl) rfl rfl rfl ?_
       try show aw _ _ _ _ _ _
       have hst : Spec.stays x tm l x89 = true := by simp only [Spec.stays, Bool.or_eq_true, decide_eq_true_eq]; first | exact .inl (by omega) | exact .inr (by assumption)
       have hcq1 : Spec.conseq (x89 :: us.drop (j + 1)) := by have q := hcq; rw [drop_at hx90] at q; exact q
       have hx111 : Ext Hl43 H108 := (Ext.trans (Ext.then (Ext.trans hxl82 hx96) hf101 (fun q hq e => by omega)) hx109)
       refine aw_keep [1, 2, 4, 8] (l' := (.cons 1 (.slice usA us.length usc) (.cons 2 (.pointer (some ⟨b1, 0, none⟩)) (.cons 4 (.pointer (some ⟨b7, 0, none⟩)) (.cons 8 (.int .i64 ((j : Int) + 1)) .nil))))) (by repeat (first | exact Up.done | refine Up.then ?_ | refine Up.inBlock ?_)) rfl ?_
       exact ih83 (j + 1, H108) ⟨(show (j + 1) ≤ us.length from (by omega)), (show us.dropWhile (Spec.stays x tm l) = (us.drop (j + 1)).dropWhile (Spec.stays x tm l) from (by rw [hv2, drop_at hx90, List.dropWhile_cons_of_pos hst])), (show Spec.conseq (us.drop (j + 1)) from (Spec.conseq_tail hcq1)), (show ∀ u, us[(j + 1)]? = some u → u.index ≤ x + l.length + 1 from (fun u hu => Spec.next_le (m := x + l.length) hcq1 x89w.1 (by first | omega | exact Spec.fits_le (by assumption)) (by omega) u (by rw [List.getElem?_drop]; simpa using hu))), (show Ext Hl43 H108 from hx111)⟩ (by simp only; omega)
      ·
       rw [Bool.not_eq_true] at hc110; refine aw_condF hc110 rfl ?_
       try show aw _ _ _ _ _ _
       refine aw_skip ?_
       try show aw _ _ _ _ _ _
       refine aw_seq ?_
       refine aw_reg ?_
       have h112 := Ext.blk hx109 (by omega) h102
       refine st_op (ev_load rfl (lvar_part (l := [.int .i64 x, .int .i64 tm, .string cf, .string dt, .slice lA l.length lc]) many49 h112 rfl rfl (by decide))) rfl rfl rfl ?_
       refine st_op (ev_fieldAddr rfl fa37_0 (o' := 0) rfl) rfl rfl rfl ?_
       have h113 := Ext.blk hx109 (by omega) hB99
       refine st_op (ev_load rfl (lvar_one one2 h113 rfl)) rfl rfl rfl ?_
       refine st_op (ev_int64 (c := x89.index - 1) rfl rfl rfl (by omega) (by omega)) rfl rfl rfl ?_
       refine st_call rfl rfl rfl ent26 rfl rfl rfl ?_
       have h114 := Row.ext h106 hx109
       obtain ⟨_, H116, hs115, hs115v, hx117⟩ := ref21_Term_spec H108 x ⟨by omega, by omega⟩ tm cf (by omega) dt lA l lc h114 cl (by omega) (by assumption) (x89.index - 1)
       rw [hs115v] at hs115; clear hs115v
       refine ⟨_, H116, hs115, ?_⟩
       have H116n : H108.next ≤ H116.next := hx117.1
       refine st_op (ev_move rfl) rfl rfl rfl ?_
       iterate 2 refine st_op (ev_extract rfl rfl) rfl rfl rfl ?_
       iterate 2 refine st_op (ev_assign rfl) rfl rfl rfl ?_
       try show aw _ _ _ _ _ _
       refine aw_seq ?_
       refine aw_marks (fun b => b < H116.next) [(false, false), (true, false), (false, false), (false, true), (false, false), (false, false)] mixed (by kernel_rfl) (by kernel_rfl) ?_
       refine sm_op (ev_fieldAddr rfl fa37_0 (o' := 0) rfl) rfl rfl rfl ?_
       have h118 := Ext.blk hx117 (by omega) h113
       refine sm_read (ev_load rfl (lvar_one one2 h118 rfl)) rfl rfl rfl (fun b hb => by cases hb; dsimp only <;> omega) ?_
       have h119 := Ext.blk hx117 (by omega) h112
       refine sm_op (ev_load rfl (lvar_part (l := [.int .i64 x, .int .i64 tm, .string cf, .string dt, .slice lA l.length lc]) many49 h119 rfl rfl (by decide))) rfl rfl rfl ?_
       refine sm_call rfl rfl rfl ent40 rfl rfl rfl ?_
       have h120 := Row.ext h114 hx117
       obtain ⟨_, H122, hs121, hs121v, hx123⟩ := ref21_First_spec H116 x ⟨by omega, by omega⟩ tm cf (by omega) dt lA l lc h120 cl (by omega) (by assumption)
       rw [hs121v] at hs121; clear hs121v
       refine ⟨_, H122, hs121, (fun _ b hb => hx123.2 b (by omega)), ?_⟩
       have H122n : H116.next ≤ H122.next := hx123.1
       refine sm_op (ev_int64 (c := x89.index - (x + 1)) rfl rfl rfl (by omega) (by omega)) rfl rfl rfl ?_
       refine sm_op (ev_assign rfl) rfl rfl rfl ?_
       try show aw _ _ _ _ _ _
       iterate 2 refine aw_seq ?_
       refine aw_reg ?_
       refine st_op (ev_fieldAddr rfl fa37_1 (o' := 1) rfl) rfl rfl rfl ?_
       have h124 := Ext.blk hx123 (by omega) h118
       refine st_op (ev_load rfl (lvar_one one2 h124 rfl)) rfl rfl rfl ?_
       refine st_op (ev_move rfl) rfl rfl rfl ?_
       refine st_op (ev_int rfl rfl rfl) rfl rfl rfl ?_
       refine st_op (ev_move rfl) rfl rfl rfl ?_
       refine st_bool 102 rfl (fun hb125 => ?_) (fun hb125 => ?_)
       ·
        have hb125 := of_decide_eq_true hb125
        iterate 7 refine st_skip rfl rfl rfl ?_
        refine st_op (ev_pickT rfl rfl) rfl rfl rfl ?_
        try show aw _ _ _ _ _ _
        refine aw_cond (t := true) rfl ?_
        try show aw _ _ _ _ _ _
        refine aw_seq ?_
        refine aw_reg ?_
        have h126 := Ext.blk hx123 (by omega) h119
        refine st_op (ev_load rfl (lvar_part (l := [.int .i64 x, .int .i64 tm, .string cf, .string dt, .slice lA l.length lc]) many49 h126 rfl rfl (by decide))) rfl rfl rfl ?_
        have hx128 : Ext H8 H122 := (Ext.trans (Ext.trans (Ext.trans hx103 hx109) hx117) hx123)
        have h127 := Ext.blk hx128 (by omega) hB11
        obtain ⟨H129, he130, H129n_, hB131, f132⟩ := mem_store (v := .agg #[.int .i64 x, .int .i64 tm, .string cf, .string dt, .slice lA l.length lc]) (o := 0) (cs' := [.int .i64 x, .int .i64 tm, .string cf, .string dt, .slice lA l.length lc]) 5 rfl rfl size49 h127 rfl rfl rfl
        refine st_op0 (he130 _ _ _ _ _ _ _ _ _ rfl rfl) rfl rfl ?_
        have hf133 : Fr (fun q => q = b7) H122 H129 := Fr.write H129n_ f132
        have H129n : H122.next ≤ H129.next := hf133.1
        iterate 2 refine st_op (ev_assign rfl) rfl rfl rfl ?_
        try show aw _ _ _ _ _ _
        refine aw_ret ?_
        have hx135 : Ext H H129 := (Ext.then (Ext.trans (Ext.trans (Ext.trans (Ext.then (Ext.trans (Ext.trans (Ext.trans (Ext.trans hx23 hx32) hxl44) hxl82) hx96) hf101 (fun q hq e => by omega)) hx109) hx117) hx123) hf133 (fun q hq e => by omega))
        have h134 := Row.ext hl hx135
        have hres : (Spec.putF x tm l us) = (0, false, l) := by have hdw : us.dropWhile (Spec.stays x tm l) = x89 :: us.drop (j + 1) := (by rw [hv2, drop_at hx90]; exact List.dropWhile_cons_of_neg (by rw [show Spec.stays x tm l x89 = false by simp only [Spec.stays, Bool.or_eq_false_iff, decide_eq_false_iff_not]; exact ⟨by omega, by assumption⟩]; decide)); have hll1 : (us.drop (j + 1)).length = us.length - (j + 1) := List.length_drop; exact Spec.put_full hx27 (by omega) hrok hdw (by omega)
        exact ⟨.tuple #[.agg #[.int .i64 x, .int .i64 tm, .string cf, .string dt, .slice lA l.length lc], .int .i64 0, .bool false], (resA_of (resL_cell rfl (lvar_part (l := [.int .i64 x, .int .i64 tm, .string cf, .string dt, .slice lA l.length lc]) many49 hB131 rfl rfl (by decide)) (resL_tmp rfl (resL_tmp rfl resL_nil))) rfl), lA, lc, by first | (rw [hres]; first | done | rfl | simp; done) | rfl, (by rw [hres]; exact h134), (by rw [hres]; exact cl), (by exact Spec.put_ok uk bus), (by exact Spec.put_len uk bus), (by exact Spec.put_last), hx135⟩
       ·
        have hb125 := of_decide_eq_false hb125
        iterate 2 refine st_op (ev_move rfl) rfl rfl rfl ?_
        refine st_op (ev_lenSl rfl Try.underlying24) rfl rfl rfl ?_
        refine st_op (ev_int64 (c := (x89.index - (x + 1)) + (us.length : Int)) rfl rfl rfl (by omega) (by omega)) rfl rfl rfl ?_
        refine st_op (ev_move rfl) rfl rfl rfl ?_
        refine st_op (ev_int64 (c := ((x89.index - (x + 1)) + (us.length : Int)) - (j : Int)) rfl rfl rfl (by omega) (by omega)) rfl rfl rfl ?_
        refine st_op (ev_int rfl rfl rfl) rfl rfl rfl ?_
        refine st_op (ev_pickF rfl rfl) rfl rfl rfl ?_
        try show aw _ _ _ _ _ _
        by_cases hc136 : (decide (((x89.index - (x + 1)) + (us.length : Int)) - (j : Int) > 200)) = true
        ·
         refine aw_condT hc136 rfl ?_
         try show aw _ _ _ _ _ _
         have hc136 := of_decide_eq_true hc136
         refine aw_seq ?_
         refine aw_reg ?_
         have h137 := Ext.blk hx123 (by omega) h119
         refine st_op (ev_load rfl (lvar_part (l := [.int .i64 x, .int .i64 tm, .string cf, .string dt, .slice lA l.length lc]) many49 h137 rfl rfl (by decide))) rfl rfl rfl ?_
         have hx139 : Ext H8 H122 := (Ext.trans (Ext.trans (Ext.trans hx103 hx109) hx117) hx123)
         have h138 := Ext.blk hx139 (by omega) hB11
         obtain ⟨H140, he141, H140n_, hB142, f143⟩ := mem_store (v := .agg #[.int .i64 x, .int .i64 tm, .string cf, .string dt, .slice lA l.length lc]) (o := 0) (cs' := [.int .i64 x, .int .i64 tm, .string cf, .string dt, .slice lA l.length lc]) 5 rfl rfl size49 h138 rfl rfl rfl
         refine st_op0 (he141 _ _ _ _ _ _ _ _ _ rfl rfl) rfl rfl ?_
         have hf144 : Fr (fun q => q = b7) H122 H140 := Fr.write H140n_ f143
         have H140n : H122.next ≤ H140.next := hf144.1
         iterate 2 refine st_op (ev_assign rfl) rfl rfl rfl ?_
         try show aw _ _ _ _ _ _
         refine aw_ret ?_
         have hx146 : Ext H H140 := (Ext.then (Ext.trans (Ext.trans (Ext.trans (Ext.then (Ext.trans (Ext.trans (Ext.trans (Ext.trans hx23 hx32) hxl44) hxl82) hx96) hf101 (fun q hq e => by omega)) hx109) hx117) hx123) hf144 (fun q hq e => by omega))
         have h145 := Row.ext hl hx146
         have hres : (Spec.putF x tm l us) = (0, false, l) := by have hdw : us.dropWhile (Spec.stays x tm l) = x89 :: us.drop (j + 1) := (by rw [hv2, drop_at hx90]; exact List.dropWhile_cons_of_neg (by rw [show Spec.stays x tm l x89 = false by simp only [Spec.stays, Bool.or_eq_false_iff, decide_eq_false_iff_not]; exact ⟨by omega, by assumption⟩]; decide)); have hll1 : (us.drop (j + 1)).length = us.length - (j + 1) := List.length_drop; exact Spec.put_full hx27 (by omega) hrok hdw (by omega)
         exact ⟨.tuple #[.agg #[.int .i64 x, .int .i64 tm, .string cf, .string dt, .slice lA l.length lc], .int .i64 0, .bool false], (resA_of (resL_cell rfl (lvar_part (l := [.int .i64 x, .int .i64 tm, .string cf, .string dt, .slice lA l.length lc]) many49 hB142 rfl rfl (by decide)) (resL_tmp rfl (resL_tmp rfl resL_nil))) rfl), lA, lc, by first | (rw [hres]; first | done | rfl | simp; done) | rfl, (by rw [hres]; exact h145), (by rw [hres]; exact cl), (by exact Spec.put_ok uk bus), (by exact Spec.put_len uk bus), (by exact Spec.put_last), hx146⟩
        ·
         rw [Bool.not_eq_true] at hc136; refine aw_condF hc136 rfl ?_
         try show aw _ _ _ _ _ _
         have hc136 := of_decide_eq_false hc136
         refine aw_skip ?_
         try show aw _ _ _ _ _ _
         refine aw_seq ?_
         refine aw_marksN (fun b => b < H122.next) 14 [false, false, false, false, false, false, false, false, false, false, false, false, true, false] [(false, false, false), (true, false, false), (false, false, false), (true, false, false), (false, false, false), (true, false, false), (false, true, false), (false, false, false), (false, false, false), (true, false, false), (false, true, false), (false, false, false), (false, true, true), (false, false, false)] rfl mixed (by kernel_rfl) (by kernel_rfl) (fun base148 H147 base148e H147n hx149 => ?_)
         have H147n : H122.next ≤ H147.next := hx149.1
         refine sn_op (ev_fieldAddr rfl fa49_0 (o' := 0) rfl) rfl rfl rfl rfl (fun h => nomatch h) ?_
         have hx151 : Ext H116 H147 := (Ext.trans hx123 hx149)
         have h150 := Ext.blk hx151 (by omega) h119
         refine sn_read 14 rfl (ev_load rfl (lvar_part (l := [.int .i64 x, .int .i64 tm, .string cf, .string dt]) many23 h150 rfl rfl (by decide))) rfl rfl rfl (fun b hb => by cases hb; dsimp only; exact ⟨by omega, by omega⟩) (fun h => nomatch h) ?_
         refine sn_op (ev_fieldAddr rfl fa49_1 (o' := 4) rfl) rfl rfl rfl rfl (fun h => nomatch h) ?_
         refine sn_read 14 rfl (ev_load rfl (lvar_one one24 h150 rfl)) rfl rfl rfl (fun b hb => by cases hb; dsimp only; exact ⟨by omega, by omega⟩) (fun h => nomatch h) ?_
         refine sn_op (ev_move rfl) rfl rfl rfl rfl (fun h => nomatch h) ?_
         have h160 := Row.ext h120 hx151
         obtain ⟨A152, c153, L154, hL155, hl156, hs157, hr158, hc159⟩ := sliceA_typed Entry.cells el24 (by decide) h160 cl (lo := none) (hi := some (.int .i64 (x89.index - (x + 1)))) (l := 0) (h := ((x89.index - (x + 1))).toNat) (by rw [Option.isSome_some, if_pos rfl]; exact bound_int (by omega) (by omega) (by first | rfl | omega)) rfl (by omega) (by omega)
         refine sn_read 14 rfl (ev_slice rfl rfl rfl rfl hs157) rfl rfl rfl (fun q hq => have h9 : q < H122.next := (fun q hq => Nat.lt_of_lt_of_le (rd_slice rfl rfl h120 hq) (by omega)) q hq; ⟨h9, by omega⟩) (fun h => nomatch h) ?_
         have hm161 : My H147 H147 none 0 4 (([] : List Entry).map Entry.cells) := .nil
         obtain ⟨A162, c163, H164, W165, he166, hm167, hf168⟩ := mem_append (f := Entry.cells) (old := ([] : List Entry)) (new := L154) (m := 0) (mx := L154.length) (c := 0) (by first | rfl | simp) (by first | rfl | simp) eok24 (by decide) hm161 hm161 (by omega) ((hr158).srcF (by decide) (by first | rfl | simp)) rfl Entry.cells_len Entry.cells_one (by omega) (by omega)
         refine sn_op (he166 _ _ _ _ _ _ _ _ _ _ rfl rfl isrow24) rfl rfl rfl rfl (fun _ => fun q hq => hf168.2 q (by omega) (fun e => by omega)) ?_
         have H164n : H147.next ≤ H164.next := hf168.1
         rw [List.nil_append] at hm167
         iterate 2 refine sn_op (ev_move rfl) rfl rfl rfl rfl (fun h => nomatch h) ?_
         have hx178 : Ext Hl81 H164 := (Ext.then (Ext.trans (Ext.trans (Ext.trans (Ext.trans (Ext.then hx96 hf101 (fun q hq e => by omega)) hx109) hx117) hx123) hx149) hf168 (fun q hq e => by omega))
         have h177 := Row.ext h85 hx178
         obtain ⟨A169, c170, L171, hL172, hl173, hs174, hr175, hc176⟩ := sliceA_typed Entry.cells el24 (by decide) h177 cus (lo := some (.int .i64 (j : Int))) (hi := none) (l := j) (h := us.length) rfl (bound_int (by omega) (by omega) (by first | rfl | omega)) (by omega) (by omega)
         refine sn_read 14 rfl (ev_slice rfl rfl rfl rfl hs174) rfl rfl rfl (fun q hq => have h9 : q < H122.next := (fun q hq => Nat.lt_of_lt_of_le (rd_slice rfl rfl h85 hq) (by omega)) q hq; ⟨h9, by omega⟩) (fun h => nomatch h) ?_
         obtain ⟨A179, c180, H181, W182, he183, hm184, hf185⟩ := mem_append (f := Entry.cells) (old := L154) (new := L171) (m := L154.length) (mx := L171.length) (c := c163) (by first | rfl | simp) (by first | rfl | simp) eok24 (by decide) hm167 hm167 (by omega) ((hr175).srcF (by decide) (by first | rfl | simp)) rfl Entry.cells_len Entry.cells_one (by omega) (by omega)
         refine sn_op (he183 _ _ _ _ _ _ _ _ _ _ rfl rfl isrow24) rfl rfl rfl rfl (fun _ => fun q hq => hf185.2 q (by omega) (fun e => by omega)) ?_
         have H181n : H164.next ≤ H181.next := hf185.1
         refine sn_op (ev_build zero49 pl49 (parts := [(0, .agg #[.int .i64 x, .int .i64 tm, .string cf, .string dt]), (1, .slice A179 ((L154 ++ L171).length) c180)]) rfl (cs := [.int .i64 x, .int .i64 tm, .string cf, .string dt, .slice A179 ((L154 ++ L171).length) c180]) rfl) rfl rfl rfl rfl (fun h => nomatch h) ?_
         obtain ⟨b186, b186e⟩ : ∃ b, base148 + 12 = b := ⟨_, rfl⟩
         refine sn_alloc b186 b186e zero49 rfl rfl rfl rfl (fun _ b (hb : b < H122.next) => by omega) (fun H187 H187n_ hB189 f188 => ?_)
         have hf190 : Fr (fun q => q = b186) H181 H187 := Fr.write H187n_ f188
         have H187n : H181.next ≤ H187.next := hf190.1
         obtain ⟨H191, he192, H191n_, hB193, f194⟩ := mem_store (v := .agg #[.int .i64 x, .int .i64 tm, .string cf, .string dt, .slice A179 ((L154 ++ L171).length) c180]) (o := 0) (cs' := [.int .i64 x, .int .i64 tm, .string cf, .string dt, .slice A179 ((L154 ++ L171).length) c180]) 5 rfl rfl size49 hB189 rfl rfl rfl
         refine sn_op0 (he192 _ _ _ _ _ _ _ _ _ rfl rfl) rfl rfl rfl (fun h => nomatch h) ?_
         have hf195 : Fr (fun q => q = b186) H187 H191 := Fr.write H191n_ f194
         have H191n : H187.next ≤ H191.next := hf195.1
         try show aw _ _ _ _ _ _
         refine aw_seq ?_
         refine aw_marks (fun b => b < H191.next ∧ b ≠ b7) [(false, false), (false, false), (true, false), (false, true), (false, false), (false, false)] mixed (by kernel_rfl) (by kernel_rfl) ?_
         refine sm_op (ev_load rfl (lvar_part (l := [.int .i64 x, .int .i64 tm, .string cf, .string dt, .slice A179 ((L154 ++ L171).length) c180]) many49 hB193 rfl rfl (by decide))) rfl rfl rfl ?_
         refine sm_op (ev_fieldAddr rfl fa37_0 (o' := 0) rfl) rfl rfl rfl ?_
         have hx197 : Ext H122 H191 := (Ext.then (Ext.then (Ext.then (Ext.then hx149 hf168 (fun q hq e => by omega)) hf185 (fun q hq e => by omega)) hf190 (fun q hq e => by omega)) hf195 (fun q hq e => by omega))
         have h196 := Ext.blk hx197 (by omega) h124
         refine sm_read (ev_load rfl (lvar_one one2 h196 rfl)) rfl rfl rfl (fun b hb => by cases hb; dsimp only <;> omega) ?_
         have hx199 : Ext H8 H191 := (Ext.then (Ext.then (Ext.then (Ext.then (Ext.trans (Ext.trans (Ext.trans (Ext.trans hx103 hx109) hx117) hx123) hx149) hf168 (fun q hq e => by omega)) hf185 (fun q hq e => by omega)) hf190 (fun q hq e => by omega)) hf195 (fun q hq e => by omega))
         have h198 := Ext.blk hx199 (by omega) hB11
         obtain ⟨H200, he201, H200n_, hB202, f203⟩ := mem_store (v := .agg #[.int .i64 x, .int .i64 tm, .string cf, .string dt, .slice A179 ((L154 ++ L171).length) c180]) (o := 0) (cs' := [.int .i64 x, .int .i64 tm, .string cf, .string dt, .slice A179 ((L154 ++ L171).length) c180]) 5 rfl rfl size49 h198 rfl rfl rfl
         refine sm_act0 (he201 _ _ _ _ _ _ _ _ _ rfl rfl) rfl rfl (fun q hq => f203 q (by omega)) ?_
         have hf204 : Fr (fun q => q = b7) H191 H200 := Fr.write H200n_ f203
         have H200n : H191.next ≤ H200.next := hf204.1
         iterate 2 refine sm_op (ev_assign rfl) rfl rfl rfl ?_
         try show aw _ _ _ _ _ _
         refine aw_ret ?_
         have h205 := My.fr hm184 hf190 (fun q h1 h2 e => by omega)
         have h206 := My.frS h205 hf195 (fun q hq e => ⟨_, e ▸ hB189, show (0 : Nat) ≠ 4 by decide⟩)
         have h207 := My.frS h206 hf204 (fun q hq e => ⟨_, e ▸ h198, show (0 : Nat) ≠ 4 by decide⟩)
         have hk208 : (L154 ++ L171).length ≤ c180 := (My.capF h207 (by first | omega | (simp only [List.length_append, List.length_cons, List.length_nil, List.length_map, List.length_set, List.length_replicate, Spec.bytesOf_length]; omega) | (simp; omega)))
         have hx209 : Ext H H200 := (Ext.then (Ext.then (Ext.then (Ext.then (Ext.then (Ext.trans (Ext.trans (Ext.trans (Ext.trans (Ext.then (Ext.trans (Ext.trans (Ext.trans (Ext.trans hx23 hx32) hxl44) hxl82) hx96) hf101 (fun q hq e => by omega)) hx109) hx117) hx123) hx149) hf168 (fun q hq e => by omega)) hf185 (fun q hq e => by omega)) hf190 (fun q hq e => by omega)) hf195 (fun q hq e => by omega)) hf204 (fun q hq e => by omega))
         have hres : (Spec.putF x tm l us) = (x89.index, true, (L154 ++ L171)) := by have hdw : us.dropWhile (Spec.stays x tm l) = x89 :: us.drop (j + 1) := (by rw [hv2, drop_at hx90]; exact List.dropWhile_cons_of_neg (by rw [show Spec.stays x tm l x89 = false by simp only [Spec.stays, Bool.or_eq_false_iff, decide_eq_false_iff_not]; exact ⟨by omega, by assumption⟩]; decide)); have hll1 : (us.drop (j + 1)).length = us.length - (j + 1) := List.length_drop; have e2 : L171 = x89 :: us.drop (j + 1) := (by rw [hL172, List.take_of_length_le (by rw [List.length_drop]; exact Nat.le_refl _)]; exact drop_at hx90); rw [Spec.put_go hx27 (by omega) hrok hdw (by omega), e2, hL155, List.drop_zero, Nat.sub_zero]
         exact ⟨.tuple #[.agg #[.int .i64 x, .int .i64 tm, .string cf, .string dt, .slice A179 ((L154 ++ L171).length) c180], .int .i64 x89.index, .bool true], (resA_of (resL_cell rfl (lvar_part (l := [.int .i64 x, .int .i64 tm, .string cf, .string dt, .slice A179 ((L154 ++ L171).length) c180]) many49 hB202 rfl rfl (by decide)) (resL_tmp rfl (resL_tmp rfl resL_nil))) rfl), A179, c180, by first | (rw [hres]; first | done | rfl | simp; done) | rfl, (by rw [hres]; exact (My.row h207)), (by rw [hres]; exact hk208), (by exact Spec.put_ok uk bus), (by exact Spec.put_len uk bus), (by exact Spec.put_last), hx209⟩
    ·
     rw [Bool.not_eq_true] at hc84; refine aw_condF hc84 rfl ?_
     try show aw _ _ _ _ _ _
     have hc84 := of_decide_eq_false hc84
     refine aw_exit ?_
     try show aw _ _ _ _ _ _
     refine aw_seq ?_
     refine aw_reg ?_
     have hx211 : Ext H8 Hl81 := (Ext.trans (Ext.trans hx32 hxl44) hxl82)
     have h210 := Ext.blk hx211 (by omega) h28
     refine st_op (ev_load rfl (lvar_part (l := [.int .i64 x, .int .i64 tm, .string cf, .string dt, .slice lA l.length lc]) many49 h210 rfl rfl (by decide))) rfl rfl rfl ?_
     have h212 := Ext.blk hx211 (by omega) hB11
     obtain ⟨H213, he214, H213n_, hB215, f216⟩ := mem_store (v := .agg #[.int .i64 x, .int .i64 tm, .string cf, .string dt, .slice lA l.length lc]) (o := 0) (cs' := [.int .i64 x, .int .i64 tm, .string cf, .string dt, .slice lA l.length lc]) 5 rfl rfl size49 h212 rfl rfl rfl
     refine st_op0 (he214 _ _ _ _ _ _ _ _ _ rfl rfl) rfl rfl ?_
     have hf217 : Fr (fun q => q = b7) Hl81 H213 := Fr.write H213n_ f216
     have H213n : Hl81.next ≤ H213.next := hf217.1
     iterate 2 refine st_op (ev_assign rfl) rfl rfl rfl ?_
     try show aw _ _ _ _ _ _
     refine aw_ret ?_
     have hx219 : Ext H H213 := (Ext.then (Ext.trans (Ext.trans (Ext.trans hx23 hx32) hxl44) hxl82) hf217 (fun q hq e => by omega))
     have h218 := Row.ext hl hx219
     have hres : (Spec.putF x tm l us) = (0, true, l) := by exact Spec.put_none hx27 (by omega) hrok (by rw [hv2, List.drop_eq_nil_of_le (by omega)]; rfl)
     exact ⟨.tuple #[.agg #[.int .i64 x, .int .i64 tm, .string cf, .string dt, .slice lA l.length lc], .int .i64 0, .bool true], (resA_of (resL_cell rfl (lvar_part (l := [.int .i64 x, .int .i64 tm, .string cf, .string dt, .slice lA l.length lc]) many49 hB215 rfl rfl (by decide)) (resL_tmp rfl (resL_tmp rfl resL_nil))) rfl), lA, lc, by first | (rw [hres]; first | done | rfl | simp; done) | rfl, (by rw [hres]; exact h218), (by rw [hres]; exact cl), (by exact Spec.put_ok uk bus), (by exact Spec.put_len uk bus), (by exact Spec.put_last), hx219⟩
theorem ref21_Pack_spec (H : Heap) (x : Int) (hx : 0 ≤ x ∧ x ≤ 2199023255552) (tm : Int) (cf : ByteArray) (hcf : cf.size ≤ 1073741824) (dt : ByteArray) (lA : Option Addr) (l : List Entry) (lc : Nat) (hl : Row H lA lc 4 (l.map Entry.cells)) (cl : l.length ≤ lc) (ll : l.length ≤ 200) (uk : Spec.LogOk x tm l) (s_index : Int) (s_term : Int) (s_conf : ByteArray) (s_data : ByteArray) : ∃ v H', Spec Try.prog 23 [.agg #[.int .i64 x, .int .i64 tm, .string cf, .string dt, .slice lA l.length lc], .agg #[.int .i64 s_index, .int .i64 s_term, .string s_conf, .string s_data]] H v H' ∧ (∃ rA4 rc4, (v = .tuple #[.agg #[.int .i64 ((Spec.packF x tm cf dt l s_index s_term s_conf s_data).2.1), .int .i64 ((Spec.packF x tm cf dt l s_index s_term s_conf s_data).2.2.1), .string ((Spec.packF x tm cf dt l s_index s_term s_conf s_data).2.2.2.1), .string ((Spec.packF x tm cf dt l s_index s_term s_conf s_data).2.2.2.2.1), .slice rA4 (((Spec.packF x tm cf dt l s_index s_term s_conf s_data).2.2.2.2.2).length) rc4], .bool ((Spec.packF x tm cf dt l s_index s_term s_conf s_data).1)]) ∧ (Row H' rA4 rc4 4 (((Spec.packF x tm cf dt l s_index s_term s_conf s_data).2.2.2.2.2).map Entry.cells)) ∧ (((Spec.packF x tm cf dt l s_index s_term s_conf s_data).2.2.2.2.2).length ≤ rc4) ∧ (0 ≤ (Spec.packF x tm cf dt l s_index s_term s_conf s_data).2.1 ∧ (Spec.packF x tm cf dt l s_index s_term s_conf s_data).2.1 ≤ x + (l.length : Int) ∧ (Spec.packF x tm cf dt l s_index s_term s_conf s_data).2.1 + (((Spec.packF x tm cf dt l s_index s_term s_conf s_data).2.2.2.2.2.length : Nat) : Int) = x + (l.length : Int)) ∧ ((Spec.packF x tm cf dt l s_index s_term s_conf s_data).2.2.2.2.2.length ≤ 200) ∧ (Ext H H')) := by
 refine spec_go2 E0_ok 40 (f := 23) Try.func23 rfl rfl rfl ?_
 refine aw_seq ?_
 refine aw_reg ?_
 obtain ⟨b1, H2, he3, b1e, H2n_, hB5, f4⟩ := mem_box (P := Try.prog) H (v := .agg #[.int .i64 x, .int .i64 tm, .string cf, .string dt, .slice lA l.length lc]) (cs := [.int .i64 x, .int .i64 tm, .string cf, .string dt, .slice lA l.length lc]) rfl rfl
 refine st_op (he3 _ _ _ _ _ _ _ _ _ rfl) rfl rfl rfl ?_
 have hx6 : Ext H H2 := Ext.new (by omega) H2n_ f4
 have H2n : H.next ≤ H2.next := hx6.1
 obtain ⟨b7, H8, he9, b7e, H8n_, hB11, f10⟩ := mem_box (P := Try.prog) H2 (v := .agg #[.int .i64 s_index, .int .i64 s_term, .string s_conf, .string s_data]) (cs := [.int .i64 s_index, .int .i64 s_term, .string s_conf, .string s_data]) rfl rfl
 refine st_op (he9 _ _ _ _ _ _ _ _ _ rfl) rfl rfl rfl ?_
 have hx12 : Ext H2 H8 := Ext.new (by omega) H8n_ f10
 have H8n : H2.next ≤ H8.next := hx12.1
 obtain ⟨b13, H14, he15, b13e, H14n_, hB17, f16⟩ := mem_alloc H8 zero49
 refine st_op (he15 _ _ _ _ _ _ _) rfl rfl rfl ?_
 have hx18 : Ext H8 H14 := Ext.new (by omega) H14n_ f16
 have H14n : H8.next ≤ H14.next := hx18.1
 refine st_op (ev_assign rfl) rfl rfl rfl ?_
 try show aw _ _ _ _ _ _
 iterate 2 refine aw_seq ?_
 refine aw_marks (fun b => b < H14.next) [(false, false), (true, false), (false, false), (false, true), (false, false), (false, false), (false, false), (true, false), (false, false), (false, true), (false, false), (false, false), (false, false), (false, false), (false, false), (false, false), (false, false), (false, false), (false, false), (false, false), (false, false)] mixed (by kernel_rfl) (by kernel_rfl) ?_
 refine sm_op (ev_fieldAddr rfl fa23_0 (o' := 0) rfl) rfl rfl rfl ?_
 have h19 := Ext.blk hx18 (by omega) hB11
 refine sm_read (ev_load rfl (lvar_one one2 h19 rfl)) rfl rfl rfl (fun b hb => by cases hb; dsimp only <;> omega) ?_
 have hx21 : Ext H2 H14 := (Ext.trans hx12 hx18)
 have h20 := Ext.blk hx21 (by omega) hB5
 refine sm_op (ev_load rfl (lvar_part (l := [.int .i64 x, .int .i64 tm, .string cf, .string dt, .slice lA l.length lc]) many49 h20 rfl rfl (by decide))) rfl rfl rfl ?_
 refine sm_call rfl rfl rfl ent40 rfl rfl rfl ?_
 have hx23 : Ext H H14 := (Ext.trans (Ext.trans hx6 hx12) hx18)
 have h22 := Row.ext hl hx23
 obtain ⟨_, H25, hs24, hs24v, hx26⟩ := ref21_First_spec H14 x ⟨by omega, by omega⟩ tm cf (by omega) dt lA l lc h22 cl (by omega) (by assumption)
 rw [hs24v] at hs24; clear hs24v
 refine ⟨_, H25, hs24, (fun _ b hb => hx26.2 b (by omega)), ?_⟩
 have H25n : H14.next ≤ H25.next := hx26.1
 refine sm_op (ev_int rfl rfl rfl) rfl rfl rfl ?_
 refine sm_op (ev_move rfl) rfl rfl rfl ?_
 refine sm_bool 11 rfl (fun hb27 => ?_) (fun hb27 => ?_)
 ·
  have hb27 := of_decide_eq_true hb27
  iterate 5 refine sm_skip rfl rfl rfl ?_
  refine sm_op (ev_pickT rfl rfl) rfl rfl rfl ?_
  refine sm_op (ev_move rfl) rfl rfl rfl ?_
  iterate 7 refine sm_skip rfl rfl rfl ?_
  refine sm_op (ev_pickT rfl rfl) rfl rfl rfl ?_
  try show aw _ _ _ _ _ _
  refine aw_cond (t := true) rfl ?_
  try show aw _ _ _ _ _ _
  refine aw_seq ?_
  refine aw_reg ?_
  have h28 := Ext.blk hx26 (by omega) h20
  refine st_op (ev_load rfl (lvar_part (l := [.int .i64 x, .int .i64 tm, .string cf, .string dt, .slice lA l.length lc]) many49 h28 rfl rfl (by decide))) rfl rfl rfl ?_
  have h29 := Ext.blk hx26 (by omega) hB17
  obtain ⟨H30, he31, H30n_, hB32, f33⟩ := mem_store (v := .agg #[.int .i64 x, .int .i64 tm, .string cf, .string dt, .slice lA l.length lc]) (o := 0) (cs' := [.int .i64 x, .int .i64 tm, .string cf, .string dt, .slice lA l.length lc]) 5 rfl rfl size49 h29 rfl rfl rfl
  refine st_op0 (he31 _ _ _ _ _ _ _ _ _ rfl rfl) rfl rfl ?_
  have hf34 : Fr (fun q => q = b13) H25 H30 := Fr.write H30n_ f33
  have H30n : H25.next ≤ H30.next := hf34.1
  refine st_op (ev_assign rfl) rfl rfl rfl ?_
  try show aw _ _ _ _ _ _
  refine aw_ret ?_
  have hx36 : Ext H H30 := (Ext.then (Ext.trans hx23 hx26) hf34 (fun q hq e => by omega))
  have h35 := Row.ext hl hx36
  have hres : (Spec.packF x tm cf dt l s_index s_term s_conf s_data) = (false, x, tm, cf, dt, l) := by first | exact Spec.pack_no1 (by omega) | exact Spec.pack_no3 (by omega) | exact Spec.pack_no2 (by assumption)
  exact ⟨.tuple #[.agg #[.int .i64 x, .int .i64 tm, .string cf, .string dt, .slice lA l.length lc], .bool false], (resA_of (resL_cell rfl (lvar_part (l := [.int .i64 x, .int .i64 tm, .string cf, .string dt, .slice lA l.length lc]) many49 hB32 rfl rfl (by decide)) (resL_tmp rfl resL_nil)) rfl), lA, lc, by first | (rw [hres]; first | done | rfl | simp; done) | rfl, (by first | exact h35 | (rw [hres]; exact h35)), (by first | exact cl | (rw [hres]; exact cl)), (by exact Spec.packF_x hx.1), (by exact Spec.packF_len ll), hx36⟩
 ·
  have hb27 := of_decide_eq_false hb27
  refine sm_op (ev_fieldAddr rfl fa23_0 (o' := 0) rfl) rfl rfl rfl ?_
  have h37 := Ext.blk hx26 (by omega) h19
  refine sm_read (ev_load rfl (lvar_one one2 h37 rfl)) rfl rfl rfl (fun b hb => by cases hb; dsimp only <;> omega) ?_
  have h38 := Ext.blk hx26 (by omega) h20
  refine sm_op (ev_load rfl (lvar_part (l := [.int .i64 x, .int .i64 tm, .string cf, .string dt, .slice lA l.length lc]) many49 h38 rfl rfl (by decide))) rfl rfl rfl ?_
  refine sm_call rfl rfl rfl ent39 rfl rfl rfl ?_
  have h39 := Row.ext h22 hx26
  obtain ⟨_, H41, hs40, hs40v, hx42⟩ := ref21_Last_spec H25 x ⟨by omega, by omega⟩ tm cf (by omega) dt lA l lc h39 cl (by omega) (by assumption)
  rw [hs40v] at hs40; clear hs40v
  refine ⟨_, H41, hs40, (fun _ b hb => hx42.2 b (by omega)), ?_⟩
  have H41n : H25.next ≤ H41.next := hx42.1
  refine sm_op (ev_int rfl rfl rfl) rfl rfl rfl ?_
  refine sm_op (ev_pickF rfl rfl) rfl rfl rfl ?_
  refine sm_op (ev_move rfl) rfl rfl rfl ?_
  refine sm_bool 18 rfl (fun hb43 => ?_) (fun hb43 => ?_)
  ·
   have hb43 := of_decide_eq_true hb43
   iterate 7 refine sm_skip rfl rfl rfl ?_
   refine sm_op (ev_pickT rfl rfl) rfl rfl rfl ?_
   try show aw _ _ _ _ _ _
   refine aw_cond (t := true) rfl ?_
   try show aw _ _ _ _ _ _
   refine aw_seq ?_
   refine aw_reg ?_
   have h44 := Ext.blk hx42 (by omega) h38
   refine st_op (ev_load rfl (lvar_part (l := [.int .i64 x, .int .i64 tm, .string cf, .string dt, .slice lA l.length lc]) many49 h44 rfl rfl (by decide))) rfl rfl rfl ?_
   have hx46 : Ext H14 H41 := (Ext.trans hx26 hx42)
   have h45 := Ext.blk hx46 (by omega) hB17
   obtain ⟨H47, he48, H47n_, hB49, f50⟩ := mem_store (v := .agg #[.int .i64 x, .int .i64 tm, .string cf, .string dt, .slice lA l.length lc]) (o := 0) (cs' := [.int .i64 x, .int .i64 tm, .string cf, .string dt, .slice lA l.length lc]) 5 rfl rfl size49 h45 rfl rfl rfl
   refine st_op0 (he48 _ _ _ _ _ _ _ _ _ rfl rfl) rfl rfl ?_
   have hf51 : Fr (fun q => q = b13) H41 H47 := Fr.write H47n_ f50
   have H47n : H41.next ≤ H47.next := hf51.1
   refine st_op (ev_assign rfl) rfl rfl rfl ?_
   try show aw _ _ _ _ _ _
   refine aw_ret ?_
   have hx53 : Ext H H47 := (Ext.then (Ext.trans (Ext.trans hx23 hx26) hx42) hf51 (fun q hq e => by omega))
   have h52 := Row.ext hl hx53
   have hres : (Spec.packF x tm cf dt l s_index s_term s_conf s_data) = (false, x, tm, cf, dt, l) := by first | exact Spec.pack_no1 (by omega) | exact Spec.pack_no3 (by omega) | exact Spec.pack_no2 (by assumption)
   exact ⟨.tuple #[.agg #[.int .i64 x, .int .i64 tm, .string cf, .string dt, .slice lA l.length lc], .bool false], (resA_of (resL_cell rfl (lvar_part (l := [.int .i64 x, .int .i64 tm, .string cf, .string dt, .slice lA l.length lc]) many49 hB49 rfl rfl (by decide)) (resL_tmp rfl resL_nil)) rfl), lA, lc, by first | (rw [hres]; first | done | rfl | simp; done) | rfl, (by first | exact h52 | (rw [hres]; exact h52)), (by first | exact cl | (rw [hres]; exact cl)), (by exact Spec.packF_x hx.1), (by exact Spec.packF_len ll), hx53⟩
  ·
   have hb43 := of_decide_eq_false hb43
   have h54 := Ext.blk hx42 (by omega) h38
   refine sm_op (ev_load rfl (lvar_part (l := [.int .i64 x, .int .i64 tm, .string cf, .string dt, .slice lA l.length lc]) many49 h54 rfl rfl (by decide))) rfl rfl rfl ?_
   refine sm_op (ev_fieldAddr rfl fa23_0 (o' := 0) rfl) rfl rfl rfl ?_
   have h55 := Ext.blk hx42 (by omega) h37
   refine sm_op (ev_load rfl (lvar_one one2 h55 rfl)) rfl rfl rfl ?_
   refine sm_op (ev_fieldAddr rfl fa23_1 (o' := 1) rfl) rfl rfl rfl ?_
   refine sm_op (ev_load rfl (lvar_one one2 h55 rfl)) rfl rfl rfl ?_
   refine sm_call rfl rfl rfl ent28 rfl rfl rfl ?_
   have h56 := Row.ext h39 hx42
   obtain ⟨_, H58, hs57, hs57v, hx59⟩ := ref21_Fits_spec H41 x ⟨by omega, by omega⟩ tm cf (by omega) dt lA l lc h56 cl (by omega) (by assumption) s_index s_term
   rw [hs57v] at hs57; clear hs57v
   refine ⟨_, H58, hs57, (fun _ b hb => hx59.2 b (by omega)), ?_⟩
   have H58n : H41.next ≤ H58.next := hx59.1
   refine sm_op (ev_not rfl) rfl rfl rfl ?_
   refine sm_op (ev_pickF rfl rfl) rfl rfl rfl ?_
   try show aw _ _ _ _ _ _
   by_cases hc60 : (!(Spec.fitsF x tm l s_index s_term)) = true
   ·
    refine aw_condT hc60 rfl ?_
    try show aw _ _ _ _ _ _
    replace hc60 : (Spec.fitsF x tm l s_index s_term) = false := by rw [Bool.not_eq_true'] at hc60; exact hc60
    refine aw_seq ?_
    refine aw_reg ?_
    have h61 := Ext.blk hx59 (by omega) h54
    refine st_op (ev_load rfl (lvar_part (l := [.int .i64 x, .int .i64 tm, .string cf, .string dt, .slice lA l.length lc]) many49 h61 rfl rfl (by decide))) rfl rfl rfl ?_
    have hx63 : Ext H14 H58 := (Ext.trans (Ext.trans hx26 hx42) hx59)
    have h62 := Ext.blk hx63 (by omega) hB17
    obtain ⟨H64, he65, H64n_, hB66, f67⟩ := mem_store (v := .agg #[.int .i64 x, .int .i64 tm, .string cf, .string dt, .slice lA l.length lc]) (o := 0) (cs' := [.int .i64 x, .int .i64 tm, .string cf, .string dt, .slice lA l.length lc]) 5 rfl rfl size49 h62 rfl rfl rfl
    refine st_op0 (he65 _ _ _ _ _ _ _ _ _ rfl rfl) rfl rfl ?_
    have hf68 : Fr (fun q => q = b13) H58 H64 := Fr.write H64n_ f67
    have H64n : H58.next ≤ H64.next := hf68.1
    refine st_op (ev_assign rfl) rfl rfl rfl ?_
    try show aw _ _ _ _ _ _
    refine aw_ret ?_
    have hx70 : Ext H H64 := (Ext.then (Ext.trans (Ext.trans (Ext.trans hx23 hx26) hx42) hx59) hf68 (fun q hq e => by omega))
    have h69 := Row.ext hl hx70
    have hres : (Spec.packF x tm cf dt l s_index s_term s_conf s_data) = (false, x, tm, cf, dt, l) := by first | exact Spec.pack_no1 (by omega) | exact Spec.pack_no3 (by omega) | exact Spec.pack_no2 (by assumption)
    exact ⟨.tuple #[.agg #[.int .i64 x, .int .i64 tm, .string cf, .string dt, .slice lA l.length lc], .bool false], (resA_of (resL_cell rfl (lvar_part (l := [.int .i64 x, .int .i64 tm, .string cf, .string dt, .slice lA l.length lc]) many49 hB66 rfl rfl (by decide)) (resL_tmp rfl resL_nil)) rfl), lA, lc, by first | (rw [hres]; first | done | rfl | simp; done) | rfl, (by first | exact h69 | (rw [hres]; exact h69)), (by first | exact cl | (rw [hres]; exact cl)), (by exact Spec.packF_x hx.1), (by exact Spec.packF_len ll), hx70⟩
   ·
    rw [Bool.not_eq_true] at hc60; refine aw_condF hc60 rfl ?_
    try show aw _ _ _ _ _ _
    replace hc60 : (Spec.fitsF x tm l s_index s_term) = true := by rw [Bool.not_eq_false'] at hc60; exact hc60
    have hc60m := Spec.fits_le hc60
    refine aw_skip ?_
    try show aw _ _ _ _ _ _
    refine aw_seq ?_
    refine aw_marks (fun b => b < H58.next) [(true, false), (false, false), (false, false), (false, false), (false, false), (false, false), (false, false), (false, false), (false, false), (false, false), (false, true), (false, false), (false, false), (false, false)] mixed (by kernel_rfl) (by kernel_rfl) ?_
    have h71 := Ext.blk hx59 (by omega) h55
    refine sm_read (ev_load rfl (lvar_part (l := [.int .i64 s_index, .int .i64 s_term, .string s_conf, .string s_data]) many23 h71 rfl rfl (by decide))) rfl rfl rfl (fun b hb => by cases hb; dsimp only <;> omega) ?_
    refine sm_op (ev_fieldAddr rfl fa49_1 (o' := 4) rfl) rfl rfl rfl ?_
    have h72 := Ext.blk hx59 (by omega) h54
    refine sm_op (ev_load rfl (lvar_one one24 h72 rfl)) rfl rfl rfl ?_
    refine sm_op (ev_fieldAddr rfl fa23_0 (o' := 0) rfl) rfl rfl rfl ?_
    refine sm_op (ev_load rfl (lvar_one one2 h71 rfl)) rfl rfl rfl ?_
    refine sm_op (ev_fieldAddr rfl fa49_0 (o' := 0) rfl) rfl rfl rfl ?_
    refine sm_op (ev_fieldAddr rfl fa23_0 (o' := 0) rfl) rfl rfl rfl ?_
    refine sm_op (ev_load rfl (lvar_one one2 h72 rfl)) rfl rfl rfl ?_
    refine sm_op (ev_int64 (c := s_index - x) rfl rfl rfl (by omega) (by omega)) rfl rfl rfl ?_
    have h81 := Row.ext h56 hx59
    obtain ⟨A73, c74, L75, hL76, hl77, hs78, hr79, hc80⟩ := sliceA_typed Entry.cells el24 (by decide) h81 cl (lo := some (.int .i64 (s_index - x))) (hi := none) (l := ((s_index - x)).toNat) (h := l.length) rfl (bound_int (by omega) (by omega) (by first | rfl | omega)) (by omega) (by omega)
    refine sm_op (ev_slice rfl rfl rfl rfl hs78) rfl rfl rfl ?_
    have hm82 : My H58 H58 none 0 4 (([] : List Entry).map Entry.cells) := .nil
    obtain ⟨A83, c84, H85, W86, he87, hm88, hf89⟩ := mem_append (f := Entry.cells) (old := ([] : List Entry)) (new := L75) (m := 0) (mx := L75.length) (c := 0) (by first | rfl | simp) (by first | rfl | simp) eok24 (by decide) hm82 hm82 (by omega) ((hr79).srcF (by decide) (by first | rfl | simp)) rfl Entry.cells_len Entry.cells_one (by omega) (by omega)
    refine sm_act (he87 _ _ _ _ _ _ _ _ _ _ rfl rfl isrow24) rfl rfl rfl (fun q hq => hf89.2 q (by omega) (fun e => by omega)) ?_
    have H85n : H58.next ≤ H85.next := hf89.1
    rw [List.nil_append] at hm88
    refine sm_op (ev_build zero49 pl49 (parts := [(0, .agg #[.int .i64 s_index, .int .i64 s_term, .string s_conf, .string s_data]), (1, .slice A83 L75.length c84)]) rfl (cs := [.int .i64 s_index, .int .i64 s_term, .string s_conf, .string s_data, .slice A83 L75.length c84]) rfl) rfl rfl rfl ?_
    have hx91 : Ext H14 H85 := (Ext.then (Ext.trans (Ext.trans hx26 hx42) hx59) hf89 (fun q hq e => by omega))
    have h90 := Ext.blk hx91 (by omega) hB17
    obtain ⟨H92, he93, H92n_, hB94, f95⟩ := mem_store (v := .agg #[.int .i64 s_index, .int .i64 s_term, .string s_conf, .string s_data, .slice A83 L75.length c84]) (o := 0) (cs' := [.int .i64 s_index, .int .i64 s_term, .string s_conf, .string s_data, .slice A83 L75.length c84]) 5 rfl rfl size49 h90 rfl rfl rfl
    refine sm_op0 (he93 _ _ _ _ _ _ _ _ _ rfl rfl) rfl rfl ?_
    have hf96 : Fr (fun q => q = b13) H85 H92 := Fr.write H92n_ f95
    have H92n : H85.next ≤ H92.next := hf96.1
    refine sm_op (ev_assign rfl) rfl rfl rfl ?_
    try show aw _ _ _ _ _ _
    refine aw_ret ?_
    have h97 := My.frS hm88 hf96 (fun q hq e => ⟨_, e ▸ h90, show (0 : Nat) ≠ 4 by decide⟩)
    have hk98 : L75.length ≤ c84 := (My.capF h97 (by omega))
    have hx99 : Ext H H92 := (Ext.then (Ext.then (Ext.trans (Ext.trans (Ext.trans hx23 hx26) hx42) hx59) hf89 (fun q hq e => by omega)) hf96 (fun q hq e => by omega))
    have hres : (Spec.packF x tm cf dt l s_index s_term s_conf s_data) = (true, s_index, s_term, s_conf, s_data, L75) := by exact Spec.pack_yes (by omega) (by assumption) hL76
    exact ⟨.tuple #[.agg #[.int .i64 s_index, .int .i64 s_term, .string s_conf, .string s_data, .slice A83 L75.length c84], .bool true], (resA_of (resL_cell rfl (lvar_part (l := [.int .i64 s_index, .int .i64 s_term, .string s_conf, .string s_data, .slice A83 L75.length c84]) many49 hB94 rfl rfl (by decide)) (resL_tmp rfl resL_nil)) rfl), A83, c84, by first | (rw [hres]; first | done | rfl | simp; done) | rfl, (by first | exact (My.row h97) | (rw [hres]; exact (My.row h97))), (by first | exact hk98 | (rw [hres]; exact hk98)), (by exact Spec.packF_x hx.1), (by exact Spec.packF_len ll), hx99⟩
theorem ref21_ConfAt_spec (H : Heap) (x : Int) (hx : 0 ≤ x ∧ x ≤ 2199023255552) (tm : Int) (cf : ByteArray) (hcf : cf.size ≤ 1073741824) (dt : ByteArray) (lA : Option Addr) (l : List Entry) (lc : Nat) (hl : Row H lA lc 4 (l.map Entry.cells)) (cl : l.length ≤ lc) (ll : l.length ≤ 200) (uk : Spec.LogOk x tm l) (i : Int) : ∃ v H', Spec Try.prog 47 [.agg #[.int .i64 x, .int .i64 tm, .string cf, .string dt, .slice lA l.length lc], .int .i64 i] H v H' ∧ (∃ rA0 rc0, (v = .tuple #[.slice rA0 (((Spec.confAt x cf l i).1).length) rc0, .int .i64 ((Spec.confAt x cf l i).2)]) ∧ (My H H' rA0 rc0 1 (((Spec.confAt x cf l i).1).map i64c)) ∧ (((Spec.confAt x cf l i)).1.length ≤ 7) ∧ (0 ≤ ((Spec.confAt x cf l i)).2 ∧ ((Spec.confAt x cf l i)).2 ≤ x + (l.length : Int)) ∧ (Ext H H')) := by
 refine spec_go2 E0_ok 66 (f := 47) Try.func47 rfl rfl rfl ?_
 refine aw_seq ?_
 refine aw_reg ?_
 obtain ⟨b1, H2, he3, b1e, H2n_, hB5, f4⟩ := mem_box (P := Try.prog) H (v := .agg #[.int .i64 x, .int .i64 tm, .string cf, .string dt, .slice lA l.length lc]) (cs := [.int .i64 x, .int .i64 tm, .string cf, .string dt, .slice lA l.length lc]) rfl rfl
 refine st_op (he3 _ _ _ _ _ _ _ _ _ rfl) rfl rfl rfl ?_
 have hx6 : Ext H H2 := Ext.new (by omega) H2n_ f4
 have H2n : H.next ≤ H2.next := hx6.1
 iterate 2 refine st_op (ev_assign rfl) rfl rfl rfl ?_
 try show aw _ _ _ _ _ _
 iterate 2 refine aw_seq ?_
 refine aw_reg ?_
 refine st_op (ev_fieldAddr rfl fa49_1 (o' := 4) rfl) rfl rfl rfl ?_
 refine st_op (ev_load rfl (lvar_one one24 hB5 rfl)) rfl rfl rfl ?_
 refine st_op (ev_lenSl rfl Try.underlying24) rfl rfl rfl ?_
 refine st_op (ev_int64 (c := (l.length : Int) - 1) rfl rfl rfl (by omega) (by omega)) rfl rfl rfl ?_
 refine st_op (ev_assign rfl) rfl rfl rfl ?_
 try show aw _ _ _ _ _ _
 refine aw_block ?_
 refine aw_keep [1, 2, 6] (l' := (.cons 1 (.int .i64 i) (.cons 2 (.pointer (some ⟨b1, 0, none⟩)) (.cons 6 (.int .i64 ((l.length : Int) - 1)) .nil)))) (by repeat (first | exact Up.done | refine Up.then ?_ | refine Up.inBlock ?_)) rfl ?_
 refine aw_iter (α := Int × Heap) (fun a => (a.1 + 1).toNat) (fun a => (.cons 1 (.int .i64 i) (.cons 2 (.pointer (some ⟨b1, 0, none⟩)) (.cons 6 (.int .i64 a.1) .nil)))) (fun a => a.2) (fun a => (-1 ≤ a.1 ∧ a.1 < (l.length : Int)) ∧ (Spec.confAt x cf l i = Spec.confN x cf l (min (min i (x + (l.length : Int)) - x).toNat (a.1 + 1).toNat)) ∧ (-1 ≤ a.1 ∧ a.1 ≤ 200) ∧ (Ext H2 a.2)) ((l.length : Int) - 1, H2) ⟨(show -1 ≤ ((l.length : Int) - 1) ∧ ((l.length : Int) - 1) < (l.length : Int) from ⟨by omega, by omega⟩), (show Spec.confAt x cf l i = Spec.confN x cf l (min (min i (x + (l.length : Int)) - x).toNat (((l.length : Int) - 1) + 1).toNat) from (by unfold Spec.confAt; congr 1; omega)), (show -1 ≤ ((l.length : Int) - 1) ∧ ((l.length : Int) - 1) ≤ 200 from ⟨by omega, by omega⟩), (show Ext H2 H2 from (Ext.refl H2))⟩ ?_
 rintro ⟨k, Hl7⟩ ⟨hk, hv, hn8, hxl9⟩ ih10
 replace hk : -1 ≤ k ∧ k < (l.length : Int) := hk
 replace hv : Spec.confAt x cf l i = Spec.confN x cf l (min (min i (x + (l.length : Int)) - x).toNat (k + 1).toNat) := hv
 replace hn8 : -1 ≤ k ∧ k ≤ 200 := hn8
 replace hxl9 : Ext H2 Hl7 := hxl9
 show aw _ _ _ (RL _ (.cons 1 (.int .i64 i) (.cons 2 (.pointer (some ⟨b1, 0, none⟩)) (.cons 6 (.int .i64 k) .nil)))) Hl7 _
 have Hl7n : H2.next ≤ Hl7.next := hxl9.1
 iterate 2 refine aw_seq ?_
 refine aw_reg ?_
 refine st_op (ev_move rfl) rfl rfl rfl ?_
 refine st_op (ev_int rfl rfl rfl) rfl rfl rfl ?_
 try show aw _ _ _ _ _ _
 by_cases hc11 : (decide (k ≥ 0)) = true
 ·
  refine aw_condT hc11 rfl ?_
  try show aw _ _ _ _ _ _
  have hc11 := of_decide_eq_true hc11
  refine aw_skip ?_
  try show aw _ _ _ _ _ _
  refine aw_seq ?_
  refine aw_block ?_
  refine aw_seq ?_
  refine aw_reg ?_
  refine st_op (ev_fieldAddr rfl fa49_1 (o' := 4) rfl) rfl rfl rfl ?_
  have h12 := Ext.blk hxl9 (by omega) hB5
  refine st_op (ev_load rfl (lvar_one one24 h12 rfl)) rfl rfl rfl ?_
  refine st_op (ev_move rfl) rfl rfl rfl ?_
  have hx14 : Ext H Hl7 := (Ext.trans hx6 hxl9)
  have h13 := Row.ext hl hx14
  have hi15 : 0 ≤ (k : Int) := by omega
  have hi16 : (k : Int) < ((l.length : Nat) : Int) := by omega
  obtain ⟨x17, hx18⟩ : ∃ e, l[(k).toNat]? = some e := ⟨_, List.getElem?_eq_getElem (by omega)⟩
  have x17i := uk.at_ hx18; have x17d := (uk.ents _ (List.mem_of_getElem? hx18)).2
  refine st_op (ev_at rfl rfl h13 (getMap Entry.cells hx18) (by first | rfl | omega | simp) hi15 hi16 el24) rfl rfl rfl ?_
  refine st_op (ev_atF rfl h13 (getMap Entry.cells hx18) fa37_2 rfl) rfl rfl rfl ?_
  refine st_op (ev_atL rfl h13 (getMap Entry.cells hx18) one3 rfl) rfl rfl rfl ?_
  refine st_op (ev_int rfl rfl rfl) rfl rfl rfl ?_
  refine st_op (ev_move rfl) rfl rfl rfl ?_
  refine st_bool 26 rfl (fun hb19 => ?_) (fun hb19 => ?_)
  ·
   have hb19 := eq_of_beq hb19
   refine st_op (ev_fieldAddr rfl fa49_1 (o' := 4) rfl) rfl rfl rfl ?_
   refine st_op (ev_load rfl (lvar_one one24 h12 rfl)) rfl rfl rfl ?_
   refine st_op (ev_move rfl) rfl rfl rfl ?_
   have hi20 : 0 ≤ (k : Int) := by omega
   have hi21 : (k : Int) < ((l.length : Nat) : Int) := by omega
   refine st_op (ev_at rfl rfl h13 (getMap Entry.cells hx18) (by first | rfl | omega | simp) hi20 hi21 el24) rfl rfl rfl ?_
   refine st_op (ev_atF rfl h13 (getMap Entry.cells hx18) fa37_0 rfl) rfl rfl rfl ?_
   refine st_op (ev_atL rfl h13 (getMap Entry.cells hx18) one2 rfl) rfl rfl rfl ?_
   refine st_op (ev_move rfl) rfl rfl rfl ?_
   refine st_op (ev_int rfl rfl rfl) rfl rfl rfl ?_
   refine st_op (ev_pickT rfl rfl) rfl rfl rfl ?_
   try show aw _ _ _ _ _ _
   by_cases hc22 : (decide (x17.index ≤ i)) = true
   ·
    refine aw_condT hc22 rfl ?_
    try show aw _ _ _ _ _ _
    have hc22 := of_decide_eq_true hc22
    refine aw_seq ?_
    refine aw_reg ?_
    refine st_op (ev_fieldAddr rfl fa49_1 (o' := 4) rfl) rfl rfl rfl ?_
    refine st_op (ev_load rfl (lvar_one one24 h12 rfl)) rfl rfl rfl ?_
    refine st_op (ev_move rfl) rfl rfl rfl ?_
    have hi23 : 0 ≤ (k : Int) := by omega
    have hi24 : (k : Int) < ((l.length : Nat) : Int) := by omega
    refine st_op (ev_at rfl rfl h13 (getMap Entry.cells hx18) (by first | rfl | omega | simp) hi23 hi24 el24) rfl rfl rfl ?_
    refine st_op (ev_atF rfl h13 (getMap Entry.cells hx18) fa37_3 rfl) rfl rfl rfl ?_
    refine st_op (ev_atL rfl h13 (getMap Entry.cells hx18) one9 rfl) rfl rfl rfl ?_
    refine st_call rfl rfl rfl ent50 rfl rfl rfl ?_
    obtain ⟨_, H26, hs25, A28, c29, hs25v, hm30, hx27⟩ := ref21_DecodeConf_spec Hl7 x17.data (by omega)
    rw [hs25v] at hs25; clear hs25v
    refine ⟨_, H26, hs25, ?_⟩
    have H26n : Hl7.next ≤ H26.next := hx27.1
    refine st_op (ev_move rfl) rfl rfl rfl ?_
    iterate 2 refine st_op (ev_extract rfl rfl) rfl rfl rfl ?_
    iterate 2 refine st_op (ev_assign rfl) rfl rfl rfl ?_
    try show aw _ _ _ _ _ _
    refine aw_seq ?_
    refine aw_reg ?_
    refine st_op (ev_move rfl) rfl rfl rfl ?_
    try show aw _ _ _ _ _ _
    by_cases hc31 : ((Spec.decC x17.data).2) = true
    ·
     refine aw_condT hc31 rfl ?_
     try show aw _ _ _ _ _ _
     refine aw_seq ?_
     refine aw_marks (fun b => b < H26.next) [(false, false), (false, false), (false, false), (false, false), (false, false), (false, false), (false, false), (false, false), (false, false)] mixed (by kernel_rfl) (by kernel_rfl) ?_
     refine sm_op (ev_move rfl) rfl rfl rfl ?_
     refine sm_op (ev_fieldAddr rfl fa49_1 (o' := 4) rfl) rfl rfl rfl ?_
     have h32 := Ext.blk hx27 (by omega) h12
     refine sm_op (ev_load rfl (lvar_one one24 h32 rfl)) rfl rfl rfl ?_
     refine sm_op (ev_move rfl) rfl rfl rfl ?_
     have h33 := Row.ext h13 hx27
     have hi34 : 0 ≤ (k : Int) := by omega
     have hi35 : (k : Int) < ((l.length : Nat) : Int) := by first | omega | (simp only [List.length_append, List.length_cons, List.length_nil, List.length_map, List.length_set, List.length_replicate, Spec.bytesOf_length]; omega) | (simp; omega)
     refine sm_op (ev_at rfl rfl h33 (getMap Entry.cells hx18) (by first | rfl | omega | simp) hi34 hi35 el24) rfl rfl rfl ?_
     refine sm_op (ev_atF rfl h33 (getMap Entry.cells hx18) fa37_0 rfl) rfl rfl rfl ?_
     refine sm_op (ev_atL rfl h33 (getMap Entry.cells hx18) one2 rfl) rfl rfl rfl ?_
     iterate 2 refine sm_op (ev_assign rfl) rfl rfl rfl ?_
     try show aw _ _ _ _ _ _
     refine aw_ret ?_
     have hx36 : Ext H H26 := (Ext.trans hx14 hx27)
     have hres : (Spec.confAt x cf l i) = (((Spec.decC x17.data).1), x17.index) := by rw [hv, show (k + 1).toNat = k.toNat + 1 by omega, Spec.conf_found hx18 (by omega) (by first | assumption | omega | simp_all) (by assumption)]; simp only [Prod.mk.injEq, true_and]; omega
     exact ⟨.tuple #[.slice A28 (((Spec.decC x17.data).1).length) c29, .int .i64 x17.index], rfl, A28, c29, by first | (rw [hres]; first | done | rfl | simp; done) | rfl, (by first | exact (My.older hm30 (by omega)) | (rw [hres]; exact (My.older hm30 (by omega)))), (by exact Spec.confN_len _), (by exact Spec.confAt_bd uk.x0), hx36⟩
    ·
     rw [Bool.not_eq_true] at hc31; refine aw_condF hc31 rfl ?_
     try show aw _ _ _ _ _ _
     refine aw_skip ?_
     try show aw _ _ _ _ _ _
     refine aw_reg ?_
     refine st_op (ev_move rfl) rfl rfl rfl ?_
     refine st_op (ev_int64 (c := k - 1) rfl rfl rfl (by omega) (by omega)) rfl rfl rfl ?_
     refine st_op (ev_assign rfl) rfl rfl rfl ?_
     try show aw _ _ _ _ _ _
     have hx37 : Ext H2 H26 := (Ext.trans hxl9 hx27)
     refine aw_keep [1, 2, 6] (l' := (.cons 1 (.int .i64 i) (.cons 2 (.pointer (some ⟨b1, 0, none⟩)) (.cons 6 (.int .i64 (k - 1)) .nil)))) (by repeat (first | exact Up.done | refine Up.then ?_ | refine Up.inBlock ?_)) rfl ?_
     exact ih10 (k - 1, H26) ⟨(show -1 ≤ (k - 1) ∧ (k - 1) < (l.length : Int) from ⟨by omega, by omega⟩), (show Spec.confAt x cf l i = Spec.confN x cf l (min (min i (x + (l.length : Int)) - x).toNat ((k - 1) + 1).toNat) from (by rw [hv, show (k + 1).toNat = k.toNat + 1 by omega, Spec.conf_down hx18 (by rintro q0 ⟨q1, q2⟩; first | (exfalso; omega) | simp_all), show (k - 1 + 1).toNat = k.toNat by omega])), (show -1 ≤ (k - 1) ∧ (k - 1) ≤ 200 from ⟨by omega, by omega⟩), (show Ext H2 H26 from hx37)⟩ (by simp only; omega)
   ·
    rw [Bool.not_eq_true] at hc22; refine aw_condF hc22 rfl ?_
    try show aw _ _ _ _ _ _
    have hc22 := of_decide_eq_false hc22
    refine aw_skip ?_
    try show aw _ _ _ _ _ _
    refine aw_reg ?_
    refine st_op (ev_move rfl) rfl rfl rfl ?_
    refine st_op (ev_int64 (c := k - 1) rfl rfl rfl (by omega) (by omega)) rfl rfl rfl ?_
    refine st_op (ev_assign rfl) rfl rfl rfl ?_
    try show aw _ _ _ _ _ _
    refine aw_keep [1, 2, 6] (l' := (.cons 1 (.int .i64 i) (.cons 2 (.pointer (some ⟨b1, 0, none⟩)) (.cons 6 (.int .i64 (k - 1)) .nil)))) (by repeat (first | exact Up.done | refine Up.then ?_ | refine Up.inBlock ?_)) rfl ?_
    exact ih10 (k - 1, Hl7) ⟨(show -1 ≤ (k - 1) ∧ (k - 1) < (l.length : Int) from ⟨by omega, by omega⟩), (show Spec.confAt x cf l i = Spec.confN x cf l (min (min i (x + (l.length : Int)) - x).toNat ((k - 1) + 1).toNat) from (by rw [hv, show (k + 1).toNat = k.toNat + 1 by omega, Spec.conf_down hx18 (by rintro q0 ⟨q1, q2⟩; first | (exfalso; omega) | simp_all), show (k - 1 + 1).toNat = k.toNat by omega])), (show -1 ≤ (k - 1) ∧ (k - 1) ≤ 200 from ⟨by omega, by omega⟩), (show Ext H2 Hl7 from hxl9)⟩ (by simp only; omega)
  ·
   have hb19 := ne_of_beq_false hb19
   iterate 8 refine st_skip rfl rfl rfl ?_
   refine st_op (ev_pickF rfl rfl) rfl rfl rfl ?_
   try show aw _ _ _ _ _ _
   refine aw_cond (t := false) rfl ?_
   try show aw _ _ _ _ _ _
   refine aw_skip ?_
   try show aw _ _ _ _ _ _
   refine aw_reg ?_
   refine st_op (ev_move rfl) rfl rfl rfl ?_
   refine st_op (ev_int64 (c := k - 1) rfl rfl rfl (by omega) (by omega)) rfl rfl rfl ?_
   refine st_op (ev_assign rfl) rfl rfl rfl ?_
   try show aw _ _ _ _ _ _
   refine aw_keep [1, 2, 6] (l' := (.cons 1 (.int .i64 i) (.cons 2 (.pointer (some ⟨b1, 0, none⟩)) (.cons 6 (.int .i64 (k - 1)) .nil)))) (by repeat (first | exact Up.done | refine Up.then ?_ | refine Up.inBlock ?_)) rfl ?_
   exact ih10 (k - 1, Hl7) ⟨(show -1 ≤ (k - 1) ∧ (k - 1) < (l.length : Int) from ⟨by omega, by omega⟩), (show Spec.confAt x cf l i = Spec.confN x cf l (min (min i (x + (l.length : Int)) - x).toNat ((k - 1) + 1).toNat) from (by rw [hv, show (k + 1).toNat = k.toNat + 1 by omega, Spec.conf_down hx18 (by rintro q0 ⟨q1, q2⟩; first | (exfalso; omega) | simp_all), show (k - 1 + 1).toNat = k.toNat by omega])), (show -1 ≤ (k - 1) ∧ (k - 1) ≤ 200 from ⟨by omega, by omega⟩), (show Ext H2 Hl7 from hxl9)⟩ (by simp only; omega)
 ·
  rw [Bool.not_eq_true] at hc11; refine aw_condF hc11 rfl ?_
  try show aw _ _ _ _ _ _
  have hc11 := of_decide_eq_false hc11
  refine aw_exit ?_
  try show aw _ _ _ _ _ _
  refine aw_seq ?_
  refine aw_reg ?_
  refine st_op (ev_fieldAddr rfl fa49_0 (o' := 0) rfl) rfl rfl rfl ?_
  refine st_op (ev_fieldAddr rfl fa23_2 (o' := 2) rfl) rfl rfl rfl ?_
  have h38 := Ext.blk hxl9 (by omega) hB5
  refine st_op (ev_load rfl (lvar_one one9 h38 rfl)) rfl rfl rfl ?_
  refine st_call rfl rfl rfl ent50 rfl rfl rfl ?_
  obtain ⟨_, H40, hs39, A42, c43, hs39v, hm44, hx41⟩ := ref21_DecodeConf_spec Hl7 cf (by omega)
  rw [hs39v] at hs39; clear hs39v
  refine ⟨_, H40, hs39, ?_⟩
  have H40n : Hl7.next ≤ H40.next := hx41.1
  refine st_op (ev_move rfl) rfl rfl rfl ?_
  iterate 2 refine st_op (ev_extract rfl rfl) rfl rfl rfl ?_
  iterate 2 refine st_op (ev_assign rfl) rfl rfl rfl ?_
  try show aw _ _ _ _ _ _
  iterate 2 refine aw_seq ?_
  refine aw_reg ?_
  refine st_op (ev_move rfl) rfl rfl rfl ?_
  try show aw _ _ _ _ _ _
  by_cases hc45 : ((Spec.decC cf).2) = true
  ·
   refine aw_condT hc45 rfl ?_
   try show aw _ _ _ _ _ _
   refine aw_seq ?_
   refine aw_marks (fun b => b < H40.next) [(false, false), (false, false), (false, false), (false, false), (false, false), (false, false)] mixed (by kernel_rfl) (by kernel_rfl) ?_
   refine sm_op (ev_move rfl) rfl rfl rfl ?_
   refine sm_op (ev_fieldAddr rfl fa49_0 (o' := 0) rfl) rfl rfl rfl ?_
   refine sm_op (ev_fieldAddr rfl fa23_0 (o' := 0) rfl) rfl rfl rfl ?_
   have h46 := Ext.blk hx41 (by omega) h38
   refine sm_op (ev_load rfl (lvar_one one2 h46 rfl)) rfl rfl rfl ?_
   iterate 2 refine sm_op (ev_assign rfl) rfl rfl rfl ?_
   try show aw _ _ _ _ _ _
   refine aw_ret ?_
   have hx47 : Ext H H40 := (Ext.trans (Ext.trans hx6 hxl9) hx41)
   have hres : (Spec.confAt x cf l i) = (((Spec.decC cf).1), x) := by rw [hv, show (k + 1).toNat = 0 by omega, Nat.min_zero, Spec.confN]; first | (rw [if_pos (by assumption)]; done) | (rw [if_neg (fun h => Bool.noConfusion (h.symm.trans (show _ = false by assumption)))]; done)
   exact ⟨.tuple #[.slice A42 (((Spec.decC cf).1).length) c43, .int .i64 x], rfl, A42, c43, by first | (rw [hres]; first | done | rfl | simp; done) | rfl, (by first | exact (My.older hm44 (by omega)) | (rw [hres]; exact (My.older hm44 (by omega)))), (by exact Spec.confN_len _), (by exact Spec.confAt_bd uk.x0), hx47⟩
  ·
   rw [Bool.not_eq_true] at hc45; refine aw_condF hc45 rfl ?_
   try show aw _ _ _ _ _ _
   refine aw_skip ?_
   try show aw _ _ _ _ _ _
   refine aw_seq ?_
   refine aw_reg ?_
   iterate 2 refine st_op (ev_assign rfl) rfl rfl rfl ?_
   try show aw _ _ _ _ _ _
   refine aw_ret ?_
   have hm48 : My H40 H40 none 0 1 (([] : List Int).map i64c) := .nil
   have hx49 : Ext H H40 := (Ext.trans (Ext.trans hx6 hxl9) hx41)
   have hres : (Spec.confAt x cf l i) = (([] : List Int), 0) := by rw [hv, show (k + 1).toNat = 0 by omega, Nat.min_zero, Spec.confN]; first | (rw [if_pos (by assumption)]; done) | (rw [if_neg (fun h => Bool.noConfusion (h.symm.trans (show _ = false by assumption)))]; done)
   exact ⟨.tuple #[.slice none 0 0, .int .i64 0], rfl, none, 0, by first | (rw [hres]; first | done | rfl | simp; done) | rfl, (by first | exact (My.older hm48 (by omega)) | (rw [hres]; exact (My.older hm48 (by omega)))), (by exact Spec.confN_len _), (by exact Spec.confAt_bd uk.x0), hx49⟩
theorem ref21_Conf_spec (H : Heap) (x : Int) (hx : 0 ≤ x ∧ x ≤ 2199023255552) (tm : Int) (cf : ByteArray) (hcf : cf.size ≤ 1073741824) (dt : ByteArray) (lA : Option Addr) (l : List Entry) (lc : Nat) (hl : Row H lA lc 4 (l.map Entry.cells)) (cl : l.length ≤ lc) (ll : l.length ≤ 200) (uk : Spec.LogOk x tm l) : ∃ v H', Spec Try.prog 43 [.agg #[.int .i64 x, .int .i64 tm, .string cf, .string dt, .slice lA l.length lc]] H v H' ∧ (∃ rA0 rc0, (v = .tuple #[.slice rA0 (((Spec.confAt x cf l (x + (l.length : Int))).1).length) rc0, .int .i64 ((Spec.confAt x cf l (x + (l.length : Int))).2)]) ∧ (My H H' rA0 rc0 1 (((Spec.confAt x cf l (x + (l.length : Int))).1).map i64c)) ∧ (((Spec.confAt x cf l (x + (l.length : Int)))).1.length ≤ 7) ∧ (0 ≤ ((Spec.confAt x cf l (x + (l.length : Int)))).2 ∧ ((Spec.confAt x cf l (x + (l.length : Int)))).2 ≤ x + (l.length : Int)) ∧ (Ext H H')) := by
 refine spec_go1 E0_ok 10 (f := 43) Try.func43 rfl rfl rfl ?_
 refine aw_seq ?_
 refine aw_reg ?_
 obtain ⟨b1, H2, he3, b1e, H2n_, hB5, f4⟩ := mem_box (P := Try.prog) H (v := .agg #[.int .i64 x, .int .i64 tm, .string cf, .string dt, .slice lA l.length lc]) (cs := [.int .i64 x, .int .i64 tm, .string cf, .string dt, .slice lA l.length lc]) rfl rfl
 refine st_op (he3 _ _ _ _ _ _ _ _ _ rfl) rfl rfl rfl ?_
 have hx6 : Ext H H2 := Ext.new (by omega) H2n_ f4
 have H2n : H.next ≤ H2.next := hx6.1
 iterate 2 refine st_op (ev_assign rfl) rfl rfl rfl ?_
 try show aw _ _ _ _ _ _
 refine aw_seq ?_
 refine aw_marks (fun b => b < H2.next) [(true, false), (false, false), (false, true), (false, false), (false, false), (false, false), (false, false), (false, false)] mixed (by kernel_rfl) (by kernel_rfl) ?_
 refine sm_read (ev_load rfl (lvar_part (l := [.int .i64 x, .int .i64 tm, .string cf, .string dt, .slice lA l.length lc]) many49 hB5 rfl rfl (by decide))) rfl rfl rfl (fun b hb => by cases hb; dsimp only <;> omega) ?_
 refine sm_op (ev_load rfl (lvar_part (l := [.int .i64 x, .int .i64 tm, .string cf, .string dt, .slice lA l.length lc]) many49 hB5 rfl rfl (by decide))) rfl rfl rfl ?_
 refine sm_call rfl rfl rfl ent39 rfl rfl rfl ?_
 have h7 := Row.ext hl hx6
 obtain ⟨_, H9, hs8, hs8v, hx10⟩ := ref21_Last_spec H2 x ⟨by omega, by omega⟩ tm cf (by omega) dt lA l lc h7 cl (by omega) (by assumption)
 rw [hs8v] at hs8; clear hs8v
 refine ⟨_, H9, hs8, (fun _ b hb => hx10.2 b (by omega)), ?_⟩
 have H9n : H2.next ≤ H9.next := hx10.1
 refine sm_call rfl rfl rfl ent47 rfl rfl rfl ?_
 have h11 := Row.ext h7 hx10
 obtain ⟨_, H13, hs12, A15, c16, hs12v, hm17, hq18, hq19, hx14⟩ := ref21_ConfAt_spec H9 x ⟨by omega, by omega⟩ tm cf (by omega) dt lA l lc h11 cl (by omega) (by assumption) (x + (l.length : Int))
 rw [hs12v] at hs12; clear hs12v
 refine ⟨_, H13, hs12, (fun _ b hb => hx14.2 b (by omega)), ?_⟩
 have H13n : H9.next ≤ H13.next := hx14.1
 iterate 2 refine sm_op (ev_extract rfl rfl) rfl rfl rfl ?_
 iterate 2 refine sm_op (ev_assign rfl) rfl rfl rfl ?_
 try show aw _ _ _ _ _ _
 refine aw_ret ?_
 have hx20 : Ext H H13 := (Ext.trans (Ext.trans hx6 hx10) hx14)
 have hres : (Spec.confAt x cf l (x + (l.length : Int))) = (((Spec.confAt x cf l (x + (l.length : Int))).1), ((Spec.confAt x cf l (x + (l.length : Int))).2)) := by rfl
 exact ⟨.tuple #[.slice A15 (((Spec.confAt x cf l (x + (l.length : Int))).1).length) c16, .int .i64 ((Spec.confAt x cf l (x + (l.length : Int))).2)], rfl, A15, c16, by first | (rw [hres]; first | done | rfl | simp; done) | rfl, (by first | exact (My.older hm17 (by omega)) | (rw [hres]; exact (My.older hm17 (by omega)))), (by exact Spec.confN_len _), (by exact Spec.confAt_bd uk.x0), hx20⟩
theorem ref17_EqEntry_spec (H : Heap) (a_index : Int) (a_term : Int) (a_kind : Int) (a_data : ByteArray) (b_index : Int) (b_term : Int) (b_kind : Int) (b_data : ByteArray) : ∃ v H', Spec Try.prog 37 [.agg #[.int .i64 a_index, .int .i64 a_term, .int .i64 a_kind, .string a_data], .agg #[.int .i64 b_index, .int .i64 b_term, .int .i64 b_kind, .string b_data]] H v H' ∧ ((v = .bool (decide (a_index = b_index ∧ a_term = b_term ∧ a_kind = b_kind ∧ a_data = b_data))) ∧ (Ext H H')) := by
 refine spec_go2 E0_ok 31 (f := 37) Try.func37 rfl rfl rfl ?_
 refine aw_seq ?_
 refine aw_reg ?_
 obtain ⟨b1, H2, he3, b1e, H2n_, hB5, f4⟩ := mem_box (P := Try.prog) H (v := .agg #[.int .i64 a_index, .int .i64 a_term, .int .i64 a_kind, .string a_data]) (cs := [.int .i64 a_index, .int .i64 a_term, .int .i64 a_kind, .string a_data]) rfl rfl
 refine st_op (he3 _ _ _ _ _ _ _ _ _ rfl) rfl rfl rfl ?_
 have hx6 : Ext H H2 := Ext.new (by omega) H2n_ f4
 have H2n : H.next ≤ H2.next := hx6.1
 obtain ⟨b7, H8, he9, b7e, H8n_, hB11, f10⟩ := mem_box (P := Try.prog) H2 (v := .agg #[.int .i64 b_index, .int .i64 b_term, .int .i64 b_kind, .string b_data]) (cs := [.int .i64 b_index, .int .i64 b_term, .int .i64 b_kind, .string b_data]) rfl rfl
 refine st_op (he9 _ _ _ _ _ _ _ _ _ rfl) rfl rfl rfl ?_
 have hx12 : Ext H2 H8 := Ext.new (by omega) H8n_ f10
 have H8n : H2.next ≤ H8.next := hx12.1
 refine st_op (ev_assign rfl) rfl rfl rfl ?_
 try show aw _ _ _ _ _ _
 refine aw_seq ?_
 refine aw_reg ?_
 refine st_op (ev_fieldAddr rfl fa37_0 (o' := 0) rfl) rfl rfl rfl ?_
 have h13 := Ext.blk hx12 (by omega) hB5
 refine st_op (ev_load rfl (lvar_one one2 h13 rfl)) rfl rfl rfl ?_
 refine st_op (ev_fieldAddr rfl fa37_0 (o' := 0) rfl) rfl rfl rfl ?_
 refine st_op (ev_load rfl (lvar_one one2 hB11 rfl)) rfl rfl rfl ?_
 refine st_op (ev_int rfl rfl rfl) rfl rfl rfl ?_
 refine st_op (ev_move rfl) rfl rfl rfl ?_
 refine st_bool 10 rfl (fun hb14 => ?_) (fun hb14 => ?_)
 ·
  have hb14 := eq_of_beq hb14
  refine st_op (ev_fieldAddr rfl fa37_1 (o' := 1) rfl) rfl rfl rfl ?_
  refine st_op (ev_load rfl (lvar_one one2 h13 rfl)) rfl rfl rfl ?_
  refine st_op (ev_fieldAddr rfl fa37_1 (o' := 1) rfl) rfl rfl rfl ?_
  refine st_op (ev_load rfl (lvar_one one2 hB11 rfl)) rfl rfl rfl ?_
  refine st_op (ev_int rfl rfl rfl) rfl rfl rfl ?_
  refine st_op (ev_pickT rfl rfl) rfl rfl rfl ?_
  refine st_op (ev_move rfl) rfl rfl rfl ?_
  refine st_bool 17 rfl (fun hb15 => ?_) (fun hb15 => ?_)
  ·
   have hb15 := eq_of_beq hb15
   refine st_op (ev_fieldAddr rfl fa37_2 (o' := 2) rfl) rfl rfl rfl ?_
   refine st_op (ev_load rfl (lvar_one one3 h13 rfl)) rfl rfl rfl ?_
   refine st_op (ev_fieldAddr rfl fa37_2 (o' := 2) rfl) rfl rfl rfl ?_
   refine st_op (ev_load rfl (lvar_one one3 hB11 rfl)) rfl rfl rfl ?_
   refine st_op (ev_int rfl rfl rfl) rfl rfl rfl ?_
   refine st_op (ev_pickT rfl rfl) rfl rfl rfl ?_
   refine st_op (ev_move rfl) rfl rfl rfl ?_
   refine st_bool 24 rfl (fun hb16 => ?_) (fun hb16 => ?_)
   ·
    have hb16 := eq_of_beq hb16
    refine st_op (ev_fieldAddr rfl fa37_3 (o' := 3) rfl) rfl rfl rfl ?_
    refine st_op (ev_load rfl (lvar_one one9 h13 rfl)) rfl rfl rfl ?_
    refine st_op (ev_fieldAddr rfl fa37_3 (o' := 3) rfl) rfl rfl rfl ?_
    refine st_op (ev_load rfl (lvar_one one9 hB11 rfl)) rfl rfl rfl ?_
    refine st_op (ev_str rfl rfl rfl) rfl rfl rfl ?_
    refine st_op (ev_pickT rfl rfl) rfl rfl rfl ?_
    refine st_op (ev_assign rfl) rfl rfl rfl ?_
    try show aw _ _ _ _ _ _
    refine aw_ret ?_
    have hx17 : Ext H H8 := (Ext.trans hx6 hx12)
    have hres : (decide (a_index = b_index ∧ a_term = b_term ∧ a_kind = b_kind ∧ a_data = b_data)) = ((a_data).toList == (b_data).toList) := by rw [Bool.eq_iff_iff]; simp_all [Spec.ba_iff]
    exact ⟨.bool ((a_data).toList == (b_data).toList), rfl, by first | (rw [hres]; done) | rw [← hres], hx17⟩
   ·
    have hb16 := ne_of_beq_false hb16
    iterate 5 refine st_skip rfl rfl rfl ?_
    refine st_op (ev_pickF rfl rfl) rfl rfl rfl ?_
    refine st_op (ev_assign rfl) rfl rfl rfl ?_
    try show aw _ _ _ _ _ _
    refine aw_ret ?_
    have hx18 : Ext H H8 := (Ext.trans hx6 hx12)
    have hres : (decide (a_index = b_index ∧ a_term = b_term ∧ a_kind = b_kind ∧ a_data = b_data)) = false := by rw [Bool.eq_iff_iff]; simp_all [Spec.ba_iff]
    exact ⟨.bool false, rfl, by first | (rw [hres]; done) | rw [← hres], hx18⟩
  ·
   have hb15 := ne_of_beq_false hb15
   iterate 5 refine st_skip rfl rfl rfl ?_
   refine st_op (ev_pickF rfl rfl) rfl rfl rfl ?_
   refine st_op (ev_move rfl) rfl rfl rfl ?_
   iterate 5 refine st_skip rfl rfl rfl ?_
   refine st_op (ev_pickF rfl rfl) rfl rfl rfl ?_
   refine st_op (ev_assign rfl) rfl rfl rfl ?_
   try show aw _ _ _ _ _ _
   refine aw_ret ?_
   have hx19 : Ext H H8 := (Ext.trans hx6 hx12)
   have hres : (decide (a_index = b_index ∧ a_term = b_term ∧ a_kind = b_kind ∧ a_data = b_data)) = false := by rw [Bool.eq_iff_iff]; simp_all [Spec.ba_iff]
   exact ⟨.bool false, rfl, by first | (rw [hres]; done) | rw [← hres], hx19⟩
 ·
  have hb14 := ne_of_beq_false hb14
  iterate 5 refine st_skip rfl rfl rfl ?_
  refine st_op (ev_pickF rfl rfl) rfl rfl rfl ?_
  refine st_op (ev_move rfl) rfl rfl rfl ?_
  iterate 5 refine st_skip rfl rfl rfl ?_
  refine st_op (ev_pickF rfl rfl) rfl rfl rfl ?_
  refine st_op (ev_move rfl) rfl rfl rfl ?_
  iterate 5 refine st_skip rfl rfl rfl ?_
  refine st_op (ev_pickF rfl rfl) rfl rfl rfl ?_
  refine st_op (ev_assign rfl) rfl rfl rfl ?_
  try show aw _ _ _ _ _ _
  refine aw_ret ?_
  have hx20 : Ext H H8 := (Ext.trans hx6 hx12)
  have hres : (decide (a_index = b_index ∧ a_term = b_term ∧ a_kind = b_kind ∧ a_data = b_data)) = false := by rw [Bool.eq_iff_iff]; simp_all [Spec.ba_iff]
  exact ⟨.bool false, rfl, by first | (rw [hres]; done) | rw [← hres], hx20⟩
theorem ref17_EqEntries_spec (H : Heap) (uaA : Option Addr) (ua : List Entry) (uac : Nat) (hua : Row H uaA uac 4 (ua.map Entry.cells)) (cua : ua.length ≤ uac) (lua : ua.length ≤ 140737488355328) (vaA : Option Addr) (va : List Entry) (vac : Nat) (hva : Row H vaA vac 4 (va.map Entry.cells)) (cva : va.length ≤ vac) (lva : va.length ≤ 140737488355328) : ∃ v H', Spec Try.prog 17 [.slice uaA ua.length uac, .slice vaA va.length vac] H v H' ∧ ((v = .bool (Spec.eqEs ua va)) ∧ (Ext H H')) := by
 refine spec_go2 E0_ok 27 (f := 17) Try.func17 rfl rfl rfl ?_
 refine aw_seq ?_
 refine aw_reg ?_
 refine st_op (ev_assign rfl) rfl rfl rfl ?_
 try show aw _ _ _ _ _ _
 iterate 2 refine aw_seq ?_
 refine aw_reg ?_
 refine st_op (ev_move rfl) rfl rfl rfl ?_
 refine st_op (ev_lenSl rfl Try.underlying24) rfl rfl rfl ?_
 refine st_op (ev_move rfl) rfl rfl rfl ?_
 refine st_op (ev_lenSl rfl Try.underlying24) rfl rfl rfl ?_
 refine st_op (ev_int rfl rfl rfl) rfl rfl rfl ?_
 try show aw _ _ _ _ _ _
 by_cases hc1 : ((ua.length : Int) != (va.length : Int)) = true
 ·
  refine aw_condT hc1 rfl ?_
  try show aw _ _ _ _ _ _
  have hc1 : ¬ ((ua.length : Int) = (va.length : Int)) := by simpa using hc1
  refine aw_seq ?_
  refine aw_reg ?_
  refine st_op (ev_assign rfl) rfl rfl rfl ?_
  try show aw _ _ _ _ _ _
  refine aw_ret ?_
  have hres : (Spec.eqEs ua va) = false := by exact Spec.eqEs_len (by omega)
  exact ⟨.bool false, rfl, by first | (rw [hres]; done) | rw [← hres], (Ext.refl H)⟩
 ·
  rw [Bool.not_eq_true] at hc1; refine aw_condF hc1 rfl ?_
  try show aw _ _ _ _ _ _
  have hc1 : ((ua.length : Int) = (va.length : Int)) := by simpa using hc1
  refine aw_skip ?_
  try show aw _ _ _ _ _ _
  iterate 2 refine aw_seq ?_
  refine aw_reg ?_
  refine st_op (ev_assign rfl) rfl rfl rfl ?_
  try show aw _ _ _ _ _ _
  refine aw_block ?_
  refine aw_keep [0, 1, 5] (l' := (.cons 0 (.slice uaA ua.length uac) (.cons 1 (.slice vaA va.length vac) (.cons 5 (.int .i64 0) .nil)))) (by repeat (first | exact Up.done | refine Up.then ?_ | refine Up.inBlock ?_)) rfl ?_
  refine aw_iter (α := Nat × Heap) (fun a => ua.length - a.1) (fun a => (.cons 0 (.slice uaA ua.length uac) (.cons 1 (.slice vaA va.length vac) (.cons 5 (.int .i64 (a.1 : Int)) .nil)))) (fun a => a.2) (fun a => (a.1 ≤ ua.length) ∧ (Spec.eqEs ua va = Spec.eqEs (ua.drop a.1) (va.drop a.1)) ∧ (Ext H a.2)) (0, H) ⟨(show 0 ≤ ua.length from Nat.zero_le _), (show Spec.eqEs ua va = Spec.eqEs (ua.drop 0) (va.drop 0) from rfl), (show Ext H H from (Ext.refl H))⟩ ?_
  rintro ⟨i, Hl2⟩ ⟨hi, hv, hxl3⟩ ih4
  replace hi : i ≤ ua.length := hi
  replace hv : Spec.eqEs ua va = Spec.eqEs (ua.drop i) (va.drop i) := hv
  replace hxl3 : Ext H Hl2 := hxl3
  show aw _ _ _ (RL _ (.cons 0 (.slice uaA ua.length uac) (.cons 1 (.slice vaA va.length vac) (.cons 5 (.int .i64 (i : Int)) .nil)))) Hl2 _
  have Hl2n : H.next ≤ Hl2.next := hxl3.1
  iterate 2 refine aw_seq ?_
  refine aw_reg ?_
  iterate 2 refine st_op (ev_move rfl) rfl rfl rfl ?_
  refine st_op (ev_lenSl rfl Try.underlying24) rfl rfl rfl ?_
  refine st_op (ev_int rfl rfl rfl) rfl rfl rfl ?_
  try show aw _ _ _ _ _ _
  by_cases hc5 : (decide ((i : Int) < (ua.length : Int))) = true
  ·
   refine aw_condT hc5 rfl ?_
   try show aw _ _ _ _ _ _
   have hc5 := of_decide_eq_true hc5
   refine aw_skip ?_
   try show aw _ _ _ _ _ _
   refine aw_seq ?_
   refine aw_block ?_
   refine aw_seq ?_
   refine aw_marks (fun b => b < Hl2.next) [(false, false), (false, false), (false, false), (false, false), (false, false), (false, false), (false, false), (false, false), (false, false), (false, false)] mixed (by kernel_rfl) (by kernel_rfl) ?_
   iterate 2 refine sm_op (ev_move rfl) rfl rfl rfl ?_
   have h6 := Row.ext hua hxl3
   have hi7 : 0 ≤ ((i : Int) : Int) := by omega
   have hi8 : ((i : Int) : Int) < ((ua.length : Nat) : Int) := by omega
   obtain ⟨x9, hx10⟩ : ∃ e, ua[i]? = some e := ⟨_, List.getElem?_eq_getElem (by omega)⟩
   refine sm_op (ev_at rfl rfl h6 (getMap Entry.cells hx10) (by first | rfl | omega | simp) hi7 hi8 el24) rfl rfl rfl ?_
   refine sm_op (ev_atN (cs := [.int .i64 x9.index, .int .i64 x9.term, .int .i64 x9.kind, .string x9.data]) rfl h6 (getMap Entry.cells hx10) many37 rfl rfl (by decide)) rfl rfl rfl ?_
   iterate 2 refine sm_op (ev_move rfl) rfl rfl rfl ?_
   have h11 := Row.ext hva hxl3
   have hi12 : 0 ≤ ((i : Int) : Int) := by omega
   have hi13 : ((i : Int) : Int) < ((va.length : Nat) : Int) := by omega
   obtain ⟨x14, hx15⟩ : ∃ e, va[i]? = some e := ⟨_, List.getElem?_eq_getElem (by omega)⟩
   refine sm_op (ev_at rfl rfl h11 (getMap Entry.cells hx15) (by first | rfl | omega | simp) hi12 hi13 el24) rfl rfl rfl ?_
   refine sm_op (ev_atN (cs := [.int .i64 x14.index, .int .i64 x14.term, .int .i64 x14.kind, .string x14.data]) rfl h11 (getMap Entry.cells hx15) many37 rfl rfl (by decide)) rfl rfl rfl ?_
   refine sm_call rfl rfl rfl ent37 rfl rfl rfl ?_
   obtain ⟨_, H17, hs16, hs16v, hx18⟩ := ref17_EqEntry_spec Hl2 x9.index x9.term x9.kind x9.data x14.index x14.term x14.kind x14.data
   rw [hs16v] at hs16; clear hs16v
   refine ⟨_, H17, hs16, (fun _ b hb => hx18.2 b (by omega)), ?_⟩
   have H17n : Hl2.next ≤ H17.next := hx18.1
   refine sm_op (ev_not rfl) rfl rfl rfl ?_
   try show aw _ _ _ _ _ _
   by_cases hc19 : (!(decide (x9.index = x14.index ∧ x9.term = x14.term ∧ x9.kind = x14.kind ∧ x9.data = x14.data))) = true
   ·
    refine aw_condT hc19 rfl ?_
    try show aw _ _ _ _ _ _
    replace hc19 : (decide (x9.index = x14.index ∧ x9.term = x14.term ∧ x9.kind = x14.kind ∧ x9.data = x14.data)) = false := by rw [Bool.not_eq_true'] at hc19; exact hc19
    have hc19 := of_decide_eq_false hc19
    refine aw_seq ?_
    refine aw_reg ?_
    refine st_op (ev_assign rfl) rfl rfl rfl ?_
    try show aw _ _ _ _ _ _
    refine aw_ret ?_
    have hx20 : Ext H H17 := (Ext.trans hxl3 hx18)
    have hres : (Spec.eqEs ua va) = false := by rw [hv]; exact Spec.eqEs_fail hx10 hx15 (by assumption)
    exact ⟨.bool false, rfl, by first | (rw [hres]; done) | rw [← hres], hx20⟩
   ·
    rw [Bool.not_eq_true] at hc19; refine aw_condF hc19 rfl ?_
    try show aw _ _ _ _ _ _
    replace hc19 : (decide (x9.index = x14.index ∧ x9.term = x14.term ∧ x9.kind = x14.kind ∧ x9.data = x14.data)) = true := by rw [Bool.not_eq_false'] at hc19; exact hc19
    have hc19 := of_decide_eq_true hc19
    refine aw_skip ?_
    try show aw _ _ _ _ _ _
    refine aw_reg ?_
    refine st_op (ev_move rfl) rfl rfl rfl ?_
    refine st_op (ev_int64 (c := (i : Int) + 1) rfl rfl rfl (by omega) (by omega)) rfl rfl rfl ?_
    refine st_op (ev_assign rfl) rfl rfl rfl ?_
    try show aw _ _ _ _ _ _
    have hx21 : Ext H H17 := (Ext.trans hxl3 hx18)
    refine aw_keep [0, 1, 5] (l' := (.cons 0 (.slice uaA ua.length uac) (.cons 1 (.slice vaA va.length vac) (.cons 5 (.int .i64 ((i : Int) + 1)) .nil)))) (by repeat (first | exact Up.done | refine Up.then ?_ | refine Up.inBlock ?_)) rfl ?_
    exact ih4 (i + 1, H17) ⟨(show (i + 1) ≤ ua.length from (by omega)), (show Spec.eqEs ua va = Spec.eqEs (ua.drop (i + 1)) (va.drop (i + 1)) from (by rw [hv]; exact Spec.eqEs_step hx10 hx15 (by assumption))), (show Ext H H17 from hx21)⟩ (by simp only; omega)
  ·
   rw [Bool.not_eq_true] at hc5; refine aw_condF hc5 rfl ?_
   try show aw _ _ _ _ _ _
   have hc5 := of_decide_eq_false hc5
   refine aw_exit ?_
   try show aw _ _ _ _ _ _
   refine aw_seq ?_
   refine aw_reg ?_
   refine st_op (ev_assign rfl) rfl rfl rfl ?_
   try show aw _ _ _ _ _ _
   refine aw_ret ?_
   have hres : (Spec.eqEs ua va) = true := by rw [hv, List.drop_eq_nil_of_le (by omega), List.drop_eq_nil_of_le (by omega)]; rfl
   exact ⟨.bool true, rfl, by first | (rw [hres]; done) | rw [← hres], hxl3⟩
theorem ref17_EqSnap_spec (H : Heap) (a_index : Int) (a_term : Int) (a_conf : ByteArray) (a_data : ByteArray) (b_index : Int) (b_term : Int) (b_conf : ByteArray) (b_data : ByteArray) : ∃ v H', Spec Try.prog 42 [.agg #[.int .i64 a_index, .int .i64 a_term, .string a_conf, .string a_data], .agg #[.int .i64 b_index, .int .i64 b_term, .string b_conf, .string b_data]] H v H' ∧ ((v = .bool (Spec.eqSn a_index a_term a_conf a_data b_index b_term b_conf b_data)) ∧ (Ext H H')) := by
 refine spec_go2 E0_ok 31 (f := 42) Try.func42 rfl rfl rfl ?_
 refine aw_seq ?_
 refine aw_reg ?_
 obtain ⟨b1, H2, he3, b1e, H2n_, hB5, f4⟩ := mem_box (P := Try.prog) H (v := .agg #[.int .i64 a_index, .int .i64 a_term, .string a_conf, .string a_data]) (cs := [.int .i64 a_index, .int .i64 a_term, .string a_conf, .string a_data]) rfl rfl
 refine st_op (he3 _ _ _ _ _ _ _ _ _ rfl) rfl rfl rfl ?_
 have hx6 : Ext H H2 := Ext.new (by omega) H2n_ f4
 have H2n : H.next ≤ H2.next := hx6.1
 obtain ⟨b7, H8, he9, b7e, H8n_, hB11, f10⟩ := mem_box (P := Try.prog) H2 (v := .agg #[.int .i64 b_index, .int .i64 b_term, .string b_conf, .string b_data]) (cs := [.int .i64 b_index, .int .i64 b_term, .string b_conf, .string b_data]) rfl rfl
 refine st_op (he9 _ _ _ _ _ _ _ _ _ rfl) rfl rfl rfl ?_
 have hx12 : Ext H2 H8 := Ext.new (by omega) H8n_ f10
 have H8n : H2.next ≤ H8.next := hx12.1
 refine st_op (ev_assign rfl) rfl rfl rfl ?_
 try show aw _ _ _ _ _ _
 refine aw_seq ?_
 refine aw_reg ?_
 refine st_op (ev_fieldAddr rfl fa23_0 (o' := 0) rfl) rfl rfl rfl ?_
 have h13 := Ext.blk hx12 (by omega) hB5
 refine st_op (ev_load rfl (lvar_one one2 h13 rfl)) rfl rfl rfl ?_
 refine st_op (ev_fieldAddr rfl fa23_0 (o' := 0) rfl) rfl rfl rfl ?_
 refine st_op (ev_load rfl (lvar_one one2 hB11 rfl)) rfl rfl rfl ?_
 refine st_op (ev_int rfl rfl rfl) rfl rfl rfl ?_
 refine st_op (ev_move rfl) rfl rfl rfl ?_
 refine st_bool 10 rfl (fun hb14 => ?_) (fun hb14 => ?_)
 ·
  have hb14 := eq_of_beq hb14
  refine st_op (ev_fieldAddr rfl fa23_1 (o' := 1) rfl) rfl rfl rfl ?_
  refine st_op (ev_load rfl (lvar_one one2 h13 rfl)) rfl rfl rfl ?_
  refine st_op (ev_fieldAddr rfl fa23_1 (o' := 1) rfl) rfl rfl rfl ?_
  refine st_op (ev_load rfl (lvar_one one2 hB11 rfl)) rfl rfl rfl ?_
  refine st_op (ev_int rfl rfl rfl) rfl rfl rfl ?_
  refine st_op (ev_pickT rfl rfl) rfl rfl rfl ?_
  refine st_op (ev_move rfl) rfl rfl rfl ?_
  refine st_bool 17 rfl (fun hb15 => ?_) (fun hb15 => ?_)
  ·
   have hb15 := eq_of_beq hb15
   refine st_op (ev_fieldAddr rfl fa23_2 (o' := 2) rfl) rfl rfl rfl ?_
   refine st_op (ev_load rfl (lvar_one one9 h13 rfl)) rfl rfl rfl ?_
   refine st_op (ev_fieldAddr rfl fa23_2 (o' := 2) rfl) rfl rfl rfl ?_
   refine st_op (ev_load rfl (lvar_one one9 hB11 rfl)) rfl rfl rfl ?_
   refine st_op (ev_str rfl rfl rfl) rfl rfl rfl ?_
   refine st_op (ev_pickT rfl rfl) rfl rfl rfl ?_
   refine st_op (ev_move rfl) rfl rfl rfl ?_
   refine st_bool 24 rfl (fun hb16 => ?_) (fun hb16 => ?_)
   ·
    have hb16 := eq_of_beq hb16
    refine st_op (ev_fieldAddr rfl fa23_3 (o' := 3) rfl) rfl rfl rfl ?_
    refine st_op (ev_load rfl (lvar_one one9 h13 rfl)) rfl rfl rfl ?_
    refine st_op (ev_fieldAddr rfl fa23_3 (o' := 3) rfl) rfl rfl rfl ?_
    refine st_op (ev_load rfl (lvar_one one9 hB11 rfl)) rfl rfl rfl ?_
    refine st_op (ev_str rfl rfl rfl) rfl rfl rfl ?_
    refine st_op (ev_pickT rfl rfl) rfl rfl rfl ?_
    refine st_op (ev_assign rfl) rfl rfl rfl ?_
    try show aw _ _ _ _ _ _
    refine aw_ret ?_
    have hx17 : Ext H H8 := (Ext.trans hx6 hx12)
    have hres : (Spec.eqSn a_index a_term a_conf a_data b_index b_term b_conf b_data) = ((a_data).toList == (b_data).toList) := by simp only [Spec.eqSn]; simp_all
    exact ⟨.bool ((a_data).toList == (b_data).toList), rfl, by first | (rw [hres]; done) | rw [← hres], hx17⟩
   ·
    have hb16 := ne_of_beq_false hb16
    iterate 5 refine st_skip rfl rfl rfl ?_
    refine st_op (ev_pickF rfl rfl) rfl rfl rfl ?_
    refine st_op (ev_assign rfl) rfl rfl rfl ?_
    try show aw _ _ _ _ _ _
    refine aw_ret ?_
    have hx18 : Ext H H8 := (Ext.trans hx6 hx12)
    have hres : (Spec.eqSn a_index a_term a_conf a_data b_index b_term b_conf b_data) = false := by simp only [Spec.eqSn]; simp_all
    exact ⟨.bool false, rfl, by first | (rw [hres]; done) | rw [← hres], hx18⟩
  ·
   have hb15 := ne_of_beq_false hb15
   iterate 5 refine st_skip rfl rfl rfl ?_
   refine st_op (ev_pickF rfl rfl) rfl rfl rfl ?_
   refine st_op (ev_move rfl) rfl rfl rfl ?_
   iterate 5 refine st_skip rfl rfl rfl ?_
   refine st_op (ev_pickF rfl rfl) rfl rfl rfl ?_
   refine st_op (ev_assign rfl) rfl rfl rfl ?_
   try show aw _ _ _ _ _ _
   refine aw_ret ?_
   have hx19 : Ext H H8 := (Ext.trans hx6 hx12)
   have hres : (Spec.eqSn a_index a_term a_conf a_data b_index b_term b_conf b_data) = false := by simp only [Spec.eqSn]; simp_all
   exact ⟨.bool false, rfl, by first | (rw [hres]; done) | rw [← hres], hx19⟩
 ·
  have hb14 := ne_of_beq_false hb14
  iterate 5 refine st_skip rfl rfl rfl ?_
  refine st_op (ev_pickF rfl rfl) rfl rfl rfl ?_
  refine st_op (ev_move rfl) rfl rfl rfl ?_
  iterate 5 refine st_skip rfl rfl rfl ?_
  refine st_op (ev_pickF rfl rfl) rfl rfl rfl ?_
  refine st_op (ev_move rfl) rfl rfl rfl ?_
  iterate 5 refine st_skip rfl rfl rfl ?_
  refine st_op (ev_pickF rfl rfl) rfl rfl rfl ?_
  refine st_op (ev_assign rfl) rfl rfl rfl ?_
  try show aw _ _ _ _ _ _
  refine aw_ret ?_
  have hx20 : Ext H H8 := (Ext.trans hx6 hx12)
  have hres : (Spec.eqSn a_index a_term a_conf a_data b_index b_term b_conf b_data) = false := by simp only [Spec.eqSn]; simp_all
  exact ⟨.bool false, rfl, by first | (rw [hres]; done) | rw [← hres], hx20⟩
theorem law1_Cut_spec (H : Heap) (s : ByteArray) (n : Int) (hn : 0 ≤ n ∧ n ≤ 1099511627776) : ∃ v H', Spec Try.prog 33 [.string s, .int .i64 n] H v H' ∧ ((v = .string (cutB s n)) ∧ ((((cutB s n)).size : Int) ≤ n) ∧ (Ext H H')) := by
 refine spec_go2 E0_ok 13 (f := 33) Try.func33 rfl rfl rfl ?_
 refine aw_seq ?_
 refine aw_reg ?_
 refine st_op (ev_assign rfl) rfl rfl rfl ?_
 try show aw _ _ _ _ _ _
 iterate 2 refine aw_seq ?_
 refine aw_reg ?_
 refine st_op (ev_move rfl) rfl rfl rfl ?_
 refine st_op (ev_lenStr rfl Try.underlying9) rfl rfl rfl ?_
 refine st_op (ev_move rfl) rfl rfl rfl ?_
 refine st_op (ev_int rfl rfl rfl) rfl rfl rfl ?_
 try show aw _ _ _ _ _ _
 by_cases hc1 : (decide (((s).size : Int) > n)) = true
 ·
  refine aw_condT hc1 rfl ?_
  try show aw _ _ _ _ _ _
  have hc1 := of_decide_eq_true hc1
  refine aw_seq ?_
  refine aw_reg ?_
  iterate 2 refine st_op (ev_move rfl) rfl rfl rfl ?_
  refine st_op (ev_slStr Try.underlying9 rfl rfl rfl (bound_int (by omega) (by omega) rfl) rfl) rfl rfl rfl ?_
  refine st_op (ev_assign rfl) rfl rfl rfl ?_
  try show aw _ _ _ _ _ _
  refine aw_ret ?_
  have hres : (cutB s n) = ((s).extract 0 ((n).toNat)) := by first | rw [cutB, if_pos (by omega)] | rw [cutB, if_neg (by omega)]
  exact ⟨.string ((s).extract 0 ((n).toNat)), rfl, by first | (rw [hres]; done) | rw [← hres], (by exact cutB_size hn.1), (Ext.refl H)⟩
 ·
  rw [Bool.not_eq_true] at hc1; refine aw_condF hc1 rfl ?_
  try show aw _ _ _ _ _ _
  have hc1 := of_decide_eq_false hc1
  refine aw_skip ?_
  try show aw _ _ _ _ _ _
  refine aw_seq ?_
  refine aw_reg ?_
  refine st_op (ev_move rfl) rfl rfl rfl ?_
  refine st_op (ev_assign rfl) rfl rfl rfl ?_
  try show aw _ _ _ _ _ _
  refine aw_ret ?_
  have hres : (cutB s n) = s := by first | rw [cutB, if_pos (by omega)] | rw [cutB, if_neg (by omega)]
  exact ⟨.string s, rfl, by first | (rw [hres]; done) | rw [← hres], (by exact cutB_size hn.1), (Ext.refl H)⟩
theorem law21_Snap_spec (H : Heap) (s_index : Int) (s_term : Int) (s_conf : ByteArray) (s_data : ByteArray) : ∃ v H', Spec Try.prog 10 [.agg #[.int .i64 s_index, .int .i64 s_term, .string s_conf, .string s_data]] H v H' ∧ ((v = .agg #[.int .i64 s_index, .int .i64 s_term, .string ((cutB s_conf 60, cutB s_data 100).1), .string ((cutB s_conf 60, cutB s_data 100).2)]) ∧ (((((cutB s_conf 60, cutB s_data 100)).1.size : Nat) : Int) ≤ 60) ∧ (((((cutB s_conf 60, cutB s_data 100)).2.size : Nat) : Int) ≤ 100) ∧ (Ext H H')) := by
 refine spec_go1 E0_ok 12 (f := 10) Try.func10 rfl rfl rfl ?_
 refine aw_seq ?_
 refine aw_reg ?_
 obtain ⟨b1, H2, he3, b1e, H2n_, hB5, f4⟩ := mem_box (P := Try.prog) H (v := .agg #[.int .i64 s_index, .int .i64 s_term, .string s_conf, .string s_data]) (cs := [.int .i64 s_index, .int .i64 s_term, .string s_conf, .string s_data]) rfl rfl
 refine st_op (he3 _ _ _ _ _ _ _ _ _ rfl) rfl rfl rfl ?_
 have hx6 : Ext H H2 := Ext.new (by omega) H2n_ f4
 have H2n : H.next ≤ H2.next := hx6.1
 obtain ⟨b7, H8, he9, b7e, H8n_, hB11, f10⟩ := mem_alloc H2 zero23
 refine st_op (he9 _ _ _ _ _ _ _) rfl rfl rfl ?_
 have hx12 : Ext H2 H8 := Ext.new (by omega) H8n_ f10
 have H8n : H2.next ≤ H8.next := hx12.1
 try show aw _ _ _ _ _ _
 refine aw_seq ?_
 refine aw_marks (fun b => b < H8.next) [(false, false), (false, false), (false, true), (false, false), (true, false), (false, false), (false, false), (false, false), (false, false), (false, false)] mixed (by kernel_rfl) (by kernel_rfl) ?_
 refine sm_op (ev_fieldAddr rfl fa23_2 (o' := 2) rfl) rfl rfl rfl ?_
 have h13 := Ext.blk hx12 (by omega) hB5
 refine sm_op (ev_load rfl (lvar_one one9 h13 rfl)) rfl rfl rfl ?_
 refine sm_call rfl rfl rfl ent33 rfl rfl rfl ?_
 obtain ⟨_, H15, hs14, hs14v, hq17, hx16⟩ := law1_Cut_spec H8 s_conf 60 (by decide)
 rw [hs14v] at hs14; clear hs14v
 refine ⟨_, H15, hs14, (fun _ b hb => hx16.2 b (by omega)), ?_⟩
 have H15n : H8.next ≤ H15.next := hx16.1
 refine sm_op (ev_fieldAddr rfl fa23_3 (o' := 3) rfl) rfl rfl rfl ?_
 have h18 := Ext.blk hx16 (by omega) h13
 refine sm_read (ev_load rfl (lvar_one one9 h18 rfl)) rfl rfl rfl (fun b hb => by cases hb; dsimp only <;> omega) ?_
 refine sm_call rfl rfl rfl ent33 rfl rfl rfl ?_
 obtain ⟨_, H20, hs19, hs19v, hq22, hx21⟩ := law1_Cut_spec H15 s_data 100 (by decide)
 rw [hs19v] at hs19; clear hs19v
 refine ⟨_, H20, hs19, (fun _ b hb => hx21.2 b (by omega)), ?_⟩
 have H20n : H15.next ≤ H20.next := hx21.1
 refine sm_op (ev_fieldAddr rfl fa23_2 (o' := 2) rfl) rfl rfl rfl ?_
 have h23 := Ext.blk hx21 (by omega) h18
 obtain ⟨H24, he25, H24n_, hB26, f27⟩ := mem_store (v := .string (cutB s_conf (60 : Int))) (o := 2) (cs' := [.int .i64 s_index, .int .i64 s_term, .string (cutB s_conf (60 : Int)), .string s_data]) 1 rfl rfl size9 h23 rfl rfl rfl
 refine sm_op0 (he25 _ _ _ _ _ _ _ _ _ rfl rfl) rfl rfl ?_
 have hf28 : Fr (fun q => q = b1) H20 H24 := Fr.write H24n_ f27
 have H24n : H20.next ≤ H24.next := hf28.1
 refine sm_op (ev_fieldAddr rfl fa23_3 (o' := 3) rfl) rfl rfl rfl ?_
 obtain ⟨H29, he30, H29n_, hB31, f32⟩ := mem_store (v := .string (cutB s_data (100 : Int))) (o := 3) (cs' := [.int .i64 s_index, .int .i64 s_term, .string (cutB s_conf (60 : Int)), .string (cutB s_data (100 : Int))]) 1 rfl rfl size9 hB26 rfl rfl rfl
 refine sm_op0 (he30 _ _ _ _ _ _ _ _ _ rfl rfl) rfl rfl ?_
 have hf33 : Fr (fun q => q = b1) H24 H29 := Fr.write H29n_ f32
 have H29n : H24.next ≤ H29.next := hf33.1
 try show aw _ _ _ _ _ _
 refine aw_seq ?_
 refine aw_reg ?_
 refine st_op (ev_load rfl (lvar_part (l := [.int .i64 s_index, .int .i64 s_term, .string (cutB s_conf (60 : Int)), .string (cutB s_data (100 : Int))]) many23 hB31 rfl rfl (by decide))) rfl rfl rfl ?_
 have hx35 : Ext H8 H20 := (Ext.trans hx16 hx21)
 have h34 := Ext.blk hx35 (by omega) hB11
 have h36 := Fr.blk hf28 (by omega) (fun e => (by omega)) h34
 have h37 := Fr.blk hf33 (by omega) (fun e => (by omega)) h36
 obtain ⟨H38, he39, H38n_, hB40, f41⟩ := mem_store (v := .agg #[.int .i64 s_index, .int .i64 s_term, .string (cutB s_conf (60 : Int)), .string (cutB s_data (100 : Int))]) (o := 0) (cs' := [.int .i64 s_index, .int .i64 s_term, .string (cutB s_conf (60 : Int)), .string (cutB s_data (100 : Int))]) 4 rfl rfl size23 h37 rfl rfl rfl
 refine st_op0 (he39 _ _ _ _ _ _ _ _ _ rfl rfl) rfl rfl ?_
 have hf42 : Fr (fun q => q = b7) H29 H38 := Fr.write H38n_ f41
 have H38n : H29.next ≤ H38.next := hf42.1
 try show aw _ _ _ _ _ _
 refine aw_ret ?_
 have hx43 : Ext H H38 := (Ext.then (Ext.then (Ext.then (Ext.trans (Ext.trans (Ext.trans hx6 hx12) hx16) hx21) hf28 (fun q hq e => by omega)) hf33 (fun q hq e => by omega)) hf42 (fun q hq e => by omega))
 have hres : (cutB s_conf 60, cutB s_data 100) = ((cutB s_conf (60 : Int)), (cutB s_data (100 : Int))) := by rfl
 exact ⟨.agg #[.int .i64 s_index, .int .i64 s_term, .string (cutB s_conf (60 : Int)), .string (cutB s_data (100 : Int))], (resA_of (resL_cell rfl (lvar_part (l := [.int .i64 s_index, .int .i64 s_term, .string (cutB s_conf (60 : Int)), .string (cutB s_data (100 : Int))]) many23 hB40 rfl rfl (by decide)) resL_nil) rfl), by first | (rw [hres]; done) | rw [← hres], (by exact cutB_size (by decide)), (by exact cutB_size (by decide)), hx43⟩
theorem law21_Entries_spec (H : Heap) (esA : Option Addr) (es : List Entry) (esc : Nat) (hes : Row H esA esc 4 (es.map Entry.cells)) (ces : es.length ≤ esc) (les : es.length ≤ 140737488355328) (n : Int) (hn : 0 ≤ n ∧ n ≤ 1000) : ∃ v H', Spec Try.prog 11 [.slice esA es.length esc, .int .i64 n] H v H' ∧ (∃ rA0 rc0, (v = .slice rA0 (((es.take n.toNat).map Entry.cut).length) rc0) ∧ (My H H' rA0 rc0 4 (((es.take n.toNat).map Entry.cut).map Entry.cells)) ∧ ((((((es.take n.toNat).map Entry.cut)).length : Nat) : Int) ≤ n) ∧ (Ext H H')) := by
 refine spec_go2 E0_ok 32 (f := 11) Try.func11 rfl rfl rfl ?_
 refine aw_seq ?_
 refine aw_reg ?_
 refine st_op (ev_assign rfl) rfl rfl rfl ?_
 try show aw _ _ _ _ _ _
 refine aw_seq ?_
 refine aw_reg ?_
 refine st_op (ev_assign rfl) rfl rfl rfl ?_
 try show aw _ _ _ _ _ _
 iterate 2 refine aw_seq ?_
 refine aw_reg ?_
 refine st_op (ev_assign rfl) rfl rfl rfl ?_
 try show aw _ _ _ _ _ _
 refine aw_block ?_
 have hm2 : My H H none 0 4 (([] : List Entry).map Entry.cells) := .nil
 refine aw_keep [0, 1, 5, 6] (l' := (.cons 0 (.slice esA es.length esc) (.cons 1 (.int .i64 n) (.cons 5 (.slice none 0 0) (.cons 6 (.int .i64 0) .nil))))) (by repeat (first | exact Up.done | refine Up.then ?_ | refine Up.inBlock ?_)) rfl ?_
 refine aw_iter (α := Nat × Option Addr × Nat × List Entry × Heap) (fun a => es.length - a.1) (fun a => (.cons 0 (.slice esA es.length esc) (.cons 1 (.int .i64 n) (.cons 5 (.slice a.2.1 a.2.2.2.1.length a.2.2.1) (.cons 6 (.int .i64 (a.1 : Int)) .nil))))) (fun a => a.2.2.2.2) (fun a => (a.1 ≤ es.length) ∧ ((a.1 : Int) ≤ n) ∧ (a.2.2.2.1 = (es.take a.1).map Entry.cut) ∧ (My H a.2.2.2.2 a.2.1 a.2.2.1 4 (a.2.2.2.1.map Entry.cells)) ∧ (Ext H a.2.2.2.2)) (0, none, 0, ([] : List Entry), H) ⟨(show 0 ≤ es.length from Nat.zero_le _), (show (0 : Int) ≤ n from (by omega)), (show ([] : List Entry) = (es.take 0).map Entry.cut from rfl), (show My H H none 0 4 (([] : List Entry).map Entry.cells) from hm2), (show Ext H H from (Ext.refl H))⟩ ?_
 rintro ⟨i, A, cp, l, Hl1⟩ ⟨hi, hin, hl, hm3, hxl4⟩ ih5
 replace hi : i ≤ es.length := hi
 replace hin : (i : Int) ≤ n := hin
 replace hl : l = (es.take i).map Entry.cut := hl
 replace hm3 : My H Hl1 A cp 4 (l.map Entry.cells) := hm3
 replace hxl4 : Ext H Hl1 := hxl4
 show aw _ _ _ (RL _ (.cons 0 (.slice esA es.length esc) (.cons 1 (.int .i64 n) (.cons 5 (.slice A l.length cp) (.cons 6 (.int .i64 (i : Int)) .nil))))) Hl1 _
 have Hl1n : H.next ≤ Hl1.next := hxl4.1
 have hll : l.length = i := by rw [hl, List.length_map, List.length_take]; omega
 iterate 2 refine aw_seq ?_
 refine aw_reg ?_
 iterate 2 refine st_op (ev_move rfl) rfl rfl rfl ?_
 refine st_op (ev_lenSl rfl Try.underlying24) rfl rfl rfl ?_
 refine st_op (ev_int rfl rfl rfl) rfl rfl rfl ?_
 refine st_op (ev_move rfl) rfl rfl rfl ?_
 refine st_bool 12 rfl (fun hb6 => ?_) (fun hb6 => ?_)
 ·
  have hb6 := of_decide_eq_true hb6
  iterate 2 refine st_op (ev_move rfl) rfl rfl rfl ?_
  refine st_op (ev_int rfl rfl rfl) rfl rfl rfl ?_
  refine st_op (ev_pickT rfl rfl) rfl rfl rfl ?_
  try show aw _ _ _ _ _ _
  by_cases hc7 : (decide ((i : Int) < n)) = true
  ·
   refine aw_condT hc7 rfl ?_
   try show aw _ _ _ _ _ _
   have hc7 := of_decide_eq_true hc7
   refine aw_skip ?_
   try show aw _ _ _ _ _ _
   refine aw_seq ?_
   refine aw_block ?_
   refine aw_seq ?_
   refine aw_reg ?_
   iterate 2 refine st_op (ev_move rfl) rfl rfl rfl ?_
   have h8 := Row.ext hes hxl4
   have hi9 : 0 ≤ ((i : Int) : Int) := by omega
   have hi10 : ((i : Int) : Int) < ((es.length : Nat) : Int) := by omega
   obtain ⟨x11, hx12⟩ : ∃ e, es[i]? = some e := ⟨_, List.getElem?_eq_getElem (by omega)⟩
   refine st_op (ev_at rfl rfl h8 (getMap Entry.cells hx12) (by first | rfl | omega | simp) hi9 hi10 el24) rfl rfl rfl ?_
   refine st_op (ev_atN (cs := [.int .i64 x11.index, .int .i64 x11.term, .int .i64 x11.kind, .string x11.data]) rfl h8 (getMap Entry.cells hx12) many37 rfl rfl (by decide)) rfl rfl rfl ?_
   obtain ⟨b13, H14, he15, b13e, H14n_, hB17, f16⟩ := mem_alloc Hl1 zero37
   refine st_op (he15 _ _ _ _ _ _ _) rfl rfl rfl ?_
   have hx18 : Ext Hl1 H14 := Ext.new (by omega) H14n_ f16
   have H14n : Hl1.next ≤ H14.next := hx18.1
   obtain ⟨H19, he20, H19n_, hB21, f22⟩ := mem_store (v := .agg #[.int .i64 x11.index, .int .i64 x11.term, .int .i64 x11.kind, .string x11.data]) (o := 0) (cs' := [.int .i64 x11.index, .int .i64 x11.term, .int .i64 x11.kind, .string x11.data]) 4 rfl rfl size37 hB17 rfl rfl rfl
   refine st_op0 (he20 _ _ _ _ _ _ _ _ _ rfl rfl) rfl rfl ?_
   have hf23 : Fr (fun q => q = b13) H14 H19 := Fr.write H19n_ f22
   have H19n : H14.next ≤ H19.next := hf23.1
   try show aw _ _ _ _ _ _
   refine aw_seq ?_
   refine aw_reg ?_
   refine st_op (ev_fieldAddr rfl fa37_3 (o' := 3) rfl) rfl rfl rfl ?_
   refine st_op (ev_load rfl (lvar_one one9 hB21 rfl)) rfl rfl rfl ?_
   refine st_call rfl rfl rfl ent33 rfl rfl rfl ?_
   obtain ⟨_, H25, hs24, hs24v, hq27, hx26⟩ := law1_Cut_spec H19 x11.data 60 (by decide)
   rw [hs24v] at hs24; clear hs24v
   refine ⟨_, H25, hs24, ?_⟩
   have H25n : H19.next ≤ H25.next := hx26.1
   refine st_op (ev_fieldAddr rfl fa37_3 (o' := 3) rfl) rfl rfl rfl ?_
   have h28 := Ext.blk hx26 (by omega) hB21
   obtain ⟨H29, he30, H29n_, hB31, f32⟩ := mem_store (v := .string (cutB x11.data (60 : Int))) (o := 3) (cs' := [.int .i64 x11.index, .int .i64 x11.term, .int .i64 x11.kind, .string (cutB x11.data (60 : Int))]) 1 rfl rfl size9 h28 rfl rfl rfl
   refine st_op0 (he30 _ _ _ _ _ _ _ _ _ rfl rfl) rfl rfl ?_
   have hf33 : Fr (fun q => q = b13) H25 H29 := Fr.write H29n_ f32
   have H29n : H25.next ≤ H29.next := hf33.1
   try show aw _ _ _ _ _ _
   refine aw_reg ?_
   refine st_op (ev_move rfl) rfl rfl rfl ?_
   refine st_op (ev_load rfl (lvar_part (l := [.int .i64 x11.index, .int .i64 x11.term, .int .i64 x11.kind, .string (cutB x11.data (60 : Int))]) many37 hB31 rfl rfl (by decide))) rfl rfl rfl ?_
   obtain ⟨b34, H35, he36, b34e, H35n_, hm38, f37⟩ := mem_lit H29 (xs := ([.agg #[.int .i64 x11.index, .int .i64 x11.term, .int .i64 x11.kind, .string (cutB x11.data (60 : Int))]] : List Value)) (m := 1) (rows := [[.int .i64 x11.index, .int .i64 x11.term, .int .i64 x11.kind, .string (cutB x11.data (60 : Int))]]) rfl eok24 (by decide) (by decide) zf37 rfl (allLen rfl) rfl
   replace hm38 : My H29 H35 (some ⟨b34, 0, none⟩) 1 4 ([(⟨x11.index, x11.term, x11.kind, (cutB x11.data (60 : Int))⟩ : Entry)].map Entry.cells) := hm38
   refine st_op (he36 _ _ _ _ _ _ _ _ rfl) rfl rfl rfl ?_
   have hx39 : Ext H29 H35 := Ext.new (by omega) H35n_ f37
   have H35n : H29.next ≤ H35.next := hx39.1
   have hx41 : Ext Hl1 H35 := (Ext.trans (Ext.then (Ext.trans (Ext.then hx18 hf23 (fun q hq e => by omega)) hx26) hf33 (fun q hq e => by omega)) hx39)
   have h40 := My.ext hm3 hx41
   obtain ⟨A42, c43, H44, W45, he46, hm47, hf48⟩ := mem_append (f := Entry.cells) (old := l) (new := [(⟨x11.index, x11.term, x11.kind, (cutB x11.data (60 : Int))⟩ : Entry)]) (m := l.length) (mx := 1) (c := cp) (by first | rfl | simp) (by first | rfl | simp) eok24 (by decide) hm3 h40 (by omega) (((My.row hm38)).srcF (by decide) (by first | rfl | simp)) rfl Entry.cells_len Entry.cells_one (by first | omega | (simp only [List.length_append, List.length_cons, List.length_nil, List.length_map, List.length_set, List.length_replicate, Spec.bytesOf_length]; omega) | (simp; omega)) (by first | omega | (simp only [List.length_append, List.length_cons, List.length_nil, List.length_map, List.length_set, List.length_replicate, Spec.bytesOf_length]; omega) | (simp; omega))
   refine st_op (he46 _ _ _ _ _ _ _ _ _ _ rfl rfl isrow24) rfl rfl rfl ?_
   have H44n : H35.next ≤ H44.next := hf48.1
   refine st_op (ev_assign rfl) rfl rfl rfl ?_
   try show aw _ _ _ _ _ _
   refine aw_reg ?_
   refine st_op (ev_move rfl) rfl rfl rfl ?_
   refine st_op (ev_int64 (c := (i : Int) + 1) rfl rfl rfl (by omega) (by omega)) rfl rfl rfl ?_
   refine st_op (ev_assign rfl) rfl rfl rfl ?_
   try show aw _ _ _ _ _ _
   have hx49 : Ext H H44 := (Ext.then (Ext.trans (Ext.then (Ext.trans (Ext.then (Ext.trans hxl4 hx18) hf23 (fun q hq e => by omega)) hx26) hf33 (fun q hq e => by omega)) hx39) hf48 (fun q hq e => by omega))
   refine aw_keep [0, 1, 5, 6] (l' := (.cons 0 (.slice esA es.length esc) (.cons 1 (.int .i64 n) (.cons 5 (.slice A42 ((l ++ [(⟨x11.index, x11.term, x11.kind, (cutB x11.data (60 : Int))⟩ : Entry)]).length) c43) (.cons 6 (.int .i64 ((i : Int) + 1)) .nil))))) (by repeat (first | exact Up.done | refine Up.then ?_ | refine Up.inBlock ?_)) rfl ?_
   exact ih5 (i + 1, A42, c43, (l ++ [(⟨x11.index, x11.term, x11.kind, (cutB x11.data (60 : Int))⟩ : Entry)]), H44) ⟨(show (i + 1) ≤ es.length from (by omega)), (show ((i + 1) : Int) ≤ n from (by omega)), (show (l ++ [(⟨x11.index, x11.term, x11.kind, (cutB x11.data (60 : Int))⟩ : Entry)]) = (es.take (i + 1)).map Entry.cut from (by rw [List.take_add_one, List.map_append, ← hl, hx12]; rfl)), (show My H H44 A42 c43 4 ((l ++ [(⟨x11.index, x11.term, x11.kind, (cutB x11.data (60 : Int))⟩ : Entry)]).map Entry.cells) from hm47), (show Ext H H44 from hx49)⟩ (by simp only; omega)
  ·
   rw [Bool.not_eq_true] at hc7; refine aw_condF hc7 rfl ?_
   try show aw _ _ _ _ _ _
   have hc7 := of_decide_eq_false hc7
   refine aw_exit ?_
   try show aw _ _ _ _ _ _
   refine aw_seq ?_
   refine aw_reg ?_
   refine st_op (ev_move rfl) rfl rfl rfl ?_
   refine st_op (ev_assign rfl) rfl rfl rfl ?_
   try show aw _ _ _ _ _ _
   refine aw_ret ?_
   have hres : ((es.take n.toNat).map Entry.cut) = l := by rw [hl]; congr 1; rw [List.take_eq_take_iff]; omega
   exact ⟨.slice A l.length cp, rfl, A, cp, by first | (rw [hres]; first | done | rfl | simp; done) | rfl, (by rw [hres]; exact hm3), (by rw [List.length_map, List.length_take]; omega), hxl4⟩
 ·
  have hb6 := of_decide_eq_false hb6
  iterate 3 refine st_skip rfl rfl rfl ?_
  refine st_op (ev_pickF rfl rfl) rfl rfl rfl ?_
  try show aw _ _ _ _ _ _
  refine aw_cond (t := false) rfl ?_
  try show aw _ _ _ _ _ _
  refine aw_exit ?_
  try show aw _ _ _ _ _ _
  refine aw_seq ?_
  refine aw_reg ?_
  refine st_op (ev_move rfl) rfl rfl rfl ?_
  refine st_op (ev_assign rfl) rfl rfl rfl ?_
  try show aw _ _ _ _ _ _
  refine aw_ret ?_
  have hres : ((es.take n.toNat).map Entry.cut) = l := by rw [hl]; congr 1; rw [List.take_eq_take_iff]; omega
  exact ⟨.slice A l.length cp, rfl, A, cp, by first | (rw [hres]; first | done | rfl | simp; done) | rfl, (by rw [hres]; exact hm3), (by rw [List.length_map, List.length_take]; omega), hxl4⟩
theorem law21_begun_ran : okF (runF Try.prog X0 1000 40 9 [] Hp.nil) = true := by kernel_rfl
theorem law21_begun_spec (H : Heap) : ∃ v H', Spec Try.prog 9 [] H v H' ∧ (v = .bool true ∧ H' = H) := ⟨_, _, okF_any mixed law21_begun_ran H, rfl, rfl⟩

end Go.AM
