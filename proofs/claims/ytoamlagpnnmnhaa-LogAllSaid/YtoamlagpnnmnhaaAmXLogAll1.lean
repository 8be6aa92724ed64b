/- Part of a machine of its own for this claim: the program's code over memory without draws. -/
import Derived.Test.YtoamlagpnnmnhaaAmXLogB2
set_option linter.unusedVariables false
set_option linter.unusedSimpArgs false
set_option linter.unnecessarySimpa false
set_option linter.unusedVariables false
set_option linter.unusedSimpArgs false
set_option linter.unnecessarySimpa false
namespace Go.AM
open Go Go.Proofs
theorem el47 : elemIs Try.prog 47 9 = true := by kernel_rfl
theorem ent10 : enters Try.prog 10 = true := by kernel_rfl
theorem ent11 : enters Try.prog 11 = true := by kernel_rfl
theorem ent12 : enters Try.prog 12 = true := by kernel_rfl
theorem ent13 : enters Try.prog 13 = true := by kernel_rfl
theorem ent15 : enters Try.prog 15 = true := by kernel_rfl
theorem ent17 : enters Try.prog 17 = true := by kernel_rfl
theorem ent19 : enters Try.prog 19 = true := by kernel_rfl
theorem ent20 : enters Try.prog 20 = true := by kernel_rfl
theorem ent21 : enters Try.prog 21 = true := by kernel_rfl
theorem ent22 : enters Try.prog 22 = true := by kernel_rfl
theorem ent23 : enters Try.prog 23 = true := by kernel_rfl
theorem ent24 : enters Try.prog 24 = true := by kernel_rfl
theorem ent25 : enters Try.prog 25 = true := by kernel_rfl
theorem ent29 : enters Try.prog 29 = true := by kernel_rfl
theorem ent30 : enters Try.prog 30 = true := by kernel_rfl
theorem ent31 : enters Try.prog 31 = true := by kernel_rfl
theorem ent32 : enters Try.prog 32 = true := by kernel_rfl
theorem ent42 : enters Try.prog 42 = true := by kernel_rfl
theorem ent43 : enters Try.prog 43 = true := by kernel_rfl
theorem ent9 : enters Try.prog 9 = true := by kernel_rfl
theorem fa53_0 : fieldIs Try.prog 53 0 0 = true := by kernel_rfl
theorem fa53_1 : fieldIs Try.prog 53 1 1 = true := by kernel_rfl
theorem fa53_2 : fieldIs Try.prog 53 2 2 = true := by kernel_rfl
theorem fa53_3 : fieldIs Try.prog 53 3 6 = true := by kernel_rfl
theorem fa53_4 : fieldIs Try.prog 53 4 7 = true := by kernel_rfl
theorem fa53_5 : fieldIs Try.prog 53 5 8 = true := by kernel_rfl
theorem isbool4 : isBoolT Try.prog 4 = true := by kernel_rfl
theorem many53 : manyB Try.prog 53 9 = true := by kernel_rfl
theorem size53 : sizeIs Try.prog 53 9 = true := by kernel_rfl
theorem zero53 : ZeroIs Try.prog 53 [.int .i64 0, .slice none 0 0, .int .i64 0, .int .i64 0, .string (⟨#[]⟩), .string (⟨#[]⟩), .int .i64 0, .int .i64 0, .int .i64 0] := ⟨.agg #[.int .i64 0, .slice none 0 0, .int .i64 0, .int .i64 0, .string (⟨#[]⟩), .string (⟨#[]⟩), .int .i64 0, .int .i64 0, .int .i64 0], by kernel_rfl, rfl, rfl, rfl⟩
theorem law21_Same_spec (H : Heap) (x : Int) (hx : 0 ≤ x ∧ x ≤ 2199023255552) (tm : Int) (cf : ByteArray) (hcf : cf.size ≤ 1073741824) (dt : ByteArray) (lA : Option Addr) (l : List Entry) (lc : Nat) (hl : Row H lA lc 4 (l.map Entry.cells)) (cl : l.length ≤ lc) (ll : l.length ≤ 200) (g : Nat) (hg : g < H.next) (Bg : H.blk g = some ⟨[.int .i64 x, .int .i64 tm, .string cf, .string dt, .slice lA l.length lc], 0, false, false⟩) (uk : Spec.LogOk x tm l) (rA : Option Addr) (rc : Nat) (hr : Row H rA rc 4 (l.map Entry.cells)) (cr : l.length ≤ rc) : ∃ v H', Spec Try.prog 31 [.pointer (some ⟨g, 0, none⟩), .agg #[.int .i64 x, .int .i64 tm, .string cf, .string dt, .slice rA l.length rc]] H v H' ∧ ((v = .bool true) ∧ (Ext H H')) := by
 refine spec_go2 E0_ok 78 (f := 31) Try.func31 rfl rfl rfl ?_
 refine aw_seq ?_
 refine aw_reg ?_
 obtain ⟨b1, H2, he3, b1e, H2n_, hB5, f4⟩ := mem_box (P := Try.prog) H (v := .agg #[.int .i64 x, .int .i64 tm, .string cf, .string dt, .slice rA l.length rc]) (cs := [.int .i64 x, .int .i64 tm, .string cf, .string dt, .slice rA l.length rc]) rfl rfl
 refine st_op (he3 _ _ _ _ _ _ _ _ _ rfl) rfl rfl rfl ?_
 have hx6 : Ext H H2 := Ext.new (by omega) H2n_ f4
 have H2n : H.next ≤ H2.next := hx6.1
 refine st_op (ev_assign rfl) rfl rfl rfl ?_
 try show aw _ _ _ _ _ _
 iterate 2 refine aw_seq ?_
 refine aw_marks (fun b => b < H2.next) [(false, false), (false, false), (false, false), (false, false), (false, true), (true, false), (false, false), (false, false), (false, false), (false, false), (false, false), (false, true), (true, false), (false, false), (false, false), (false, false), (false, false), (false, false), (false, true), (false, false), (true, false), (false, false), (false, false), (false, false)] mixed (by kernel_rfl) (by kernel_rfl) ?_
 refine sm_op (ev_move rfl) rfl rfl rfl ?_
 refine sm_op (ev_nilEq rfl rfl Try.underlying28) rfl rfl rfl ?_
 iterate 2 refine sm_op (ev_move rfl) rfl rfl rfl ?_
 refine sm_call rfl rfl rfl ent14 rfl rfl rfl ?_
 have h7 := Row.ext hl hx6
 have h8 := Ext.blk hx6 (by omega) Bg
 obtain ⟨_, H10, hs9, hs9v, hx11⟩ := rlog_First_spec H2 x ⟨by omega, by omega⟩ tm cf (by omega) dt lA l lc h7 cl (by omega) g (by omega) h8 (by assumption)
 rw [hs9v] at hs9; clear hs9v
 refine ⟨_, H10, hs9, (fun _ b hb => hx11.2 b (by omega)), ?_⟩
 have H10n : H2.next ≤ H10.next := hx11.1
 have h12 := Ext.blk hx11 (by omega) hB5
 refine sm_read (ev_load rfl (lvar_part (l := [.int .i64 x, .int .i64 tm, .string cf, .string dt, .slice rA l.length rc]) many49 h12 rfl rfl (by decide))) rfl rfl rfl (fun b hb => by cases hb; dsimp only <;> omega) ?_
 refine sm_call rfl rfl rfl ent40 rfl rfl rfl ?_
 have hx14 : Ext H H10 := (Ext.trans hx6 hx11)
 have h13 := Row.ext hr hx14
 obtain ⟨_, H16, hs15, hs15v, hx17⟩ := ref21_First_spec H10 x ⟨by omega, by omega⟩ tm cf (by omega) dt rA l rc h13 cr (by omega) (by assumption)
 rw [hs15v] at hs15; clear hs15v
 refine ⟨_, H16, hs15, (fun _ b hb => hx17.2 b (by omega)), ?_⟩
 have H16n : H10.next ≤ H16.next := hx17.1
 refine sm_op (ev_int rfl rfl rfl) rfl rfl rfl ?_
 refine sm_op (ev_pickF rfl rfl) rfl rfl rfl ?_
 refine sm_op (ev_move rfl) rfl rfl rfl ?_
 refine sm_bool 19 rfl (fun hb18 => ?_) (fun hb18 => ?_)
 ·
  exact absurd hb18 (by simp)
 ·
  have hb18 : ((x + 1) = (x + 1)) := by simpa using hb18
  refine sm_op (ev_move rfl) rfl rfl rfl ?_
  refine sm_call rfl rfl rfl ent16 rfl rfl rfl ?_
  have hx20 : Ext H2 H16 := (Ext.trans hx11 hx17)
  have h19 := Row.ext h7 hx20
  have h21 := Ext.blk hx20 (by omega) h8
  obtain ⟨_, H23, hs22, hs22v, hx24⟩ := rlog_Last_spec H16 x ⟨by omega, by omega⟩ tm cf (by omega) dt lA l lc h19 cl (by omega) g (by omega) h21 (by assumption)
  rw [hs22v] at hs22; clear hs22v
  refine ⟨_, H23, hs22, (fun _ b hb => hx24.2 b (by omega)), ?_⟩
  have H23n : H16.next ≤ H23.next := hx24.1
  have hx26 : Ext H10 H23 := (Ext.trans hx17 hx24)
  have h25 := Ext.blk hx26 (by omega) h12
  refine sm_read (ev_load rfl (lvar_part (l := [.int .i64 x, .int .i64 tm, .string cf, .string dt, .slice rA l.length rc]) many49 h25 rfl rfl (by decide))) rfl rfl rfl (fun b hb => by cases hb; dsimp only <;> omega) ?_
  refine sm_call rfl rfl rfl ent39 rfl rfl rfl ?_
  have h27 := Row.ext h13 hx26
  obtain ⟨_, H29, hs28, hs28v, hx30⟩ := ref21_Last_spec H23 x ⟨by omega, by omega⟩ tm cf (by omega) dt rA l rc h27 cr (by omega) (by assumption)
  rw [hs28v] at hs28; clear hs28v
  refine ⟨_, H29, hs28, (fun _ b hb => hx30.2 b (by omega)), ?_⟩
  have H29n : H23.next ≤ H29.next := hx30.1
  refine sm_op (ev_int rfl rfl rfl) rfl rfl rfl ?_
  refine sm_op (ev_pickF rfl rfl) rfl rfl rfl ?_
  refine sm_op (ev_move rfl) rfl rfl rfl ?_
  refine sm_bool 26 rfl (fun hb31 => ?_) (fun hb31 => ?_)
  ·
   exact absurd hb31 (by simp)
  ·
   have hb31 : ((x + (l.length : Int)) = (x + (l.length : Int))) := by simpa using hb31
   refine sm_op (ev_move rfl) rfl rfl rfl ?_
   refine sm_call rfl rfl rfl ent32 rfl rfl rfl ?_
   have hx33 : Ext H16 H29 := (Ext.trans hx24 hx30)
   have h32 := Row.ext h19 hx33
   have h34 := Ext.blk hx33 (by omega) h21
   obtain ⟨_, H36, hs35, hs35v, hx37⟩ := rlog_Snap_spec H29 x ⟨by omega, by omega⟩ tm cf (by omega) dt lA l lc h32 cl (by omega) g (by omega) h34 (by assumption)
   rw [hs35v] at hs35; clear hs35v
   refine ⟨_, H36, hs35, (fun _ b hb => hx37.2 b (by omega)), ?_⟩
   have H36n : H29.next ≤ H36.next := hx37.1
   refine sm_op (ev_fieldAddr rfl fa49_0 (o' := 0) rfl) rfl rfl rfl ?_
   have hx39 : Ext H23 H36 := (Ext.trans hx30 hx37)
   have h38 := Ext.blk hx39 (by omega) h25
   refine sm_read (ev_load rfl (lvar_part (l := [.int .i64 x, .int .i64 tm, .string cf, .string dt]) many23 h38 rfl rfl (by decide))) rfl rfl rfl (fun b hb => by cases hb; dsimp only <;> omega) ?_
   refine sm_call rfl rfl rfl ent42 rfl rfl rfl ?_
   obtain ⟨_, H41, hs40, hs40v, hx42⟩ := ref17_EqSnap_spec H36 x tm cf dt x tm cf dt
   rw [hs40v] at hs40; clear hs40v
   refine ⟨_, H41, hs40, (fun _ b hb => hx42.2 b (by omega)), ?_⟩
   have H41n : H36.next ≤ H41.next := hx42.1
   refine sm_op (ev_not rfl) rfl rfl rfl ?_
   refine sm_op (ev_pickF rfl rfl) rfl rfl rfl ?_
   try show aw _ _ _ _ _ _
   by_cases hc43 : (!(Spec.eqSn x tm cf dt x tm cf dt)) = true
   ·
    refine aw_condT hc43 rfl ?_
    try show aw _ _ _ _ _ _
    exact absurd hc43 (by simp [Spec.eqSn])
   ·
    rw [Bool.not_eq_true] at hc43; refine aw_condF hc43 rfl ?_
    try show aw _ _ _ _ _ _
    replace hc43 : (Spec.eqSn x tm cf dt x tm cf dt) = true := by rw [Bool.not_eq_false'] at hc43; exact hc43
    refine aw_skip ?_
    try show aw _ _ _ _ _ _
    refine aw_seq ?_
    refine aw_reg ?_
    refine st_op (ev_move rfl) rfl rfl rfl ?_
    refine st_call rfl rfl rfl ent20 rfl rfl rfl ?_
    have hx45 : Ext H29 H41 := (Ext.trans hx37 hx42)
    have h44 := Row.ext h32 hx45
    have h46 := Ext.blk hx45 (by omega) h34
    obtain ⟨_, H48, hs47, A50, c51, hs47v, hm52, hq53, hq54, hx49⟩ := rlog_Conf_spec H41 x ⟨by omega, by omega⟩ tm cf (by omega) dt lA l lc h44 cl (by omega) g (by omega) h46 (by assumption)
    rw [hs47v] at hs47; clear hs47v
    refine ⟨_, H48, hs47, ?_⟩
    have H48n : H41.next ≤ H48.next := hx49.1
    refine st_op (ev_move rfl) rfl rfl rfl ?_
    iterate 2 refine st_op (ev_extract rfl rfl) rfl rfl rfl ?_
    iterate 2 refine st_op (ev_assign rfl) rfl rfl rfl ?_
    try show aw _ _ _ _ _ _
    refine aw_seq ?_
    refine aw_reg ?_
    have hx56 : Ext H36 H48 := (Ext.trans hx42 hx49)
    have h55 := Ext.blk hx56 (by omega) h38
    refine st_op (ev_load rfl (lvar_part (l := [.int .i64 x, .int .i64 tm, .string cf, .string dt, .slice rA l.length rc]) many49 h55 rfl rfl (by decide))) rfl rfl rfl ?_
    refine st_call rfl rfl rfl ent43 rfl rfl rfl ?_
    have hx58 : Ext H23 H48 := (Ext.trans (Ext.trans hx39 hx42) hx49)
    have h57 := Row.ext h27 hx58
    obtain ⟨_, H60, hs59, A62, c63, hs59v, hm64, hq65, hq66, hx61⟩ := ref21_Conf_spec H48 x ⟨by omega, by omega⟩ tm cf (by omega) dt rA l rc h57 cr (by first | omega | (simp only [List.length_append, List.length_cons, List.length_nil, List.length_map, List.length_set, List.length_replicate, Spec.bytesOf_length]; omega) | (simp; omega)) (by assumption)
    rw [hs59v] at hs59; clear hs59v
    refine ⟨_, H60, hs59, ?_⟩
    have H60n : H48.next ≤ H60.next := hx61.1
    refine st_op (ev_move rfl) rfl rfl rfl ?_
    iterate 2 refine st_op (ev_extract rfl rfl) rfl rfl rfl ?_
    iterate 2 refine st_op (ev_assign rfl) rfl rfl rfl ?_
    try show aw _ _ _ _ _ _
    iterate 2 refine aw_seq ?_
    refine aw_reg ?_
    iterate 2 refine st_op (ev_move rfl) rfl rfl rfl ?_
    refine st_op (ev_int rfl rfl rfl) rfl rfl rfl ?_
    refine st_op (ev_move rfl) rfl rfl rfl ?_
    refine st_bool 47 rfl (fun hb67 => ?_) (fun hb67 => ?_)
    ·
     exact absurd hb67 (by simp)
    ·
     have hb67 : (((Spec.confAt x cf l (x + (l.length : Int))).2) = ((Spec.confAt x cf l (x + (l.length : Int))).2)) := by simpa using hb67
     refine st_op (ev_move rfl) rfl rfl rfl ?_
     refine st_op (ev_lenSl rfl Try.underlying42) rfl rfl rfl ?_
     refine st_op (ev_move rfl) rfl rfl rfl ?_
     refine st_op (ev_lenSl rfl Try.underlying42) rfl rfl rfl ?_
     refine st_op (ev_int rfl rfl rfl) rfl rfl rfl ?_
     refine st_op (ev_pickF rfl rfl) rfl rfl rfl ?_
     try show aw _ _ _ _ _ _
     by_cases hc68 : ((((Spec.confAt x cf l (x + (l.length : Int))).1).length : Int) != (((Spec.confAt x cf l (x + (l.length : Int))).1).length : Int)) = true
     ·
      refine aw_condT hc68 rfl ?_
      try show aw _ _ _ _ _ _
      exact absurd hc68 (by simp)
     ·
      rw [Bool.not_eq_true] at hc68; refine aw_condF hc68 rfl ?_
      try show aw _ _ _ _ _ _
      have hc68 : ((((Spec.confAt x cf l (x + (l.length : Int))).1).length : Int) = (((Spec.confAt x cf l (x + (l.length : Int))).1).length : Int)) := by simpa using hc68
      refine aw_skip ?_
      try show aw _ _ _ _ _ _
      iterate 2 refine aw_seq ?_
      refine aw_reg ?_
      refine st_op (ev_assign rfl) rfl rfl rfl ?_
      try show aw _ _ _ _ _ _
      refine aw_block ?_
      refine aw_keep [0, 3, 5, 7, 9] (l' := (.cons 0 (.pointer (some ⟨g, 0, none⟩)) (.cons 3 (.pointer (some ⟨b1, 0, none⟩)) (.cons 5 (.slice A50 (((Spec.confAt x cf l (x + (l.length : Int))).1).length) c51) (.cons 7 (.slice A62 (((Spec.confAt x cf l (x + (l.length : Int))).1).length) c63) (.cons 9 (.int .i64 0) .nil)))))) (by repeat (first | exact Up.done | refine Up.then ?_ | refine Up.inBlock ?_)) rfl ?_
      refine aw_iter (α := Nat × Heap) (fun a => ((Spec.confAt x cf l (x + (l.length : Int))).1).length - a.1) (fun a => (.cons 0 (.pointer (some ⟨g, 0, none⟩)) (.cons 3 (.pointer (some ⟨b1, 0, none⟩)) (.cons 5 (.slice A50 (((Spec.confAt x cf l (x + (l.length : Int))).1).length) c51) (.cons 7 (.slice A62 (((Spec.confAt x cf l (x + (l.length : Int))).1).length) c63) (.cons 9 (.int .i64 (a.1 : Int)) .nil)))))) (fun a => a.2) (fun a => (a.1 ≤ ((Spec.confAt x cf l (x + (l.length : Int))).1).length) ∧ (Ext H60 a.2)) (0, H60) ⟨(show 0 ≤ ((Spec.confAt x cf l (x + (l.length : Int))).1).length from Nat.zero_le _), (show Ext H60 H60 from (Ext.refl H60))⟩ ?_
      rintro ⟨i, Hl69⟩ ⟨hi, hxl70⟩ ih71
      replace hi : i ≤ ((Spec.confAt x cf l (x + (l.length : Int))).1).length := hi
      replace hxl70 : Ext H60 Hl69 := hxl70
      show aw _ _ _ (RL _ (.cons 0 (.pointer (some ⟨g, 0, none⟩)) (.cons 3 (.pointer (some ⟨b1, 0, none⟩)) (.cons 5 (.slice A50 (((Spec.confAt x cf l (x + (l.length : Int))).1).length) c51) (.cons 7 (.slice A62 (((Spec.confAt x cf l (x + (l.length : Int))).1).length) c63) (.cons 9 (.int .i64 (i : Int)) .nil)))))) Hl69 _
      have Hl69n : H60.next ≤ Hl69.next := hxl70.1
      iterate 2 refine aw_seq ?_
      refine aw_reg ?_
      iterate 2 refine st_op (ev_move rfl) rfl rfl rfl ?_
      refine st_op (ev_lenSl rfl Try.underlying42) rfl rfl rfl ?_
      refine st_op (ev_int rfl rfl rfl) rfl rfl rfl ?_
      try show aw _ _ _ _ _ _
      by_cases hc72 : (decide ((i : Int) < (((Spec.confAt x cf l (x + (l.length : Int))).1).length : Int))) = true
      ·
       refine aw_condT hc72 rfl ?_
       try show aw _ _ _ _ _ _
       have hc72 := of_decide_eq_true hc72
       refine aw_skip ?_
       try show aw _ _ _ _ _ _
       refine aw_seq ?_
       refine aw_block ?_
       refine aw_seq ?_
       refine aw_marks (fun b => b < Hl69.next) [(false, false), (false, false), (false, false), (false, false), (false, false), (false, false), (false, false), (false, false), (false, false)] mixed (by kernel_rfl) (by kernel_rfl) ?_
       iterate 2 refine sm_op (ev_move rfl) rfl rfl rfl ?_
       have hx74 : Ext H48 Hl69 := (Ext.trans hx61 hxl70)
       have h73 := My.ext hm52 hx74
       have hi75 : 0 ≤ ((i : Int) : Int) := by omega
       have hi76 : ((i : Int) : Int) < ((((Spec.confAt x cf l (x + (l.length : Int))).1).length : Nat) : Int) := by first | omega | (simp only [List.length_append, List.length_cons, List.length_nil, List.length_map, List.length_set, List.length_replicate, Spec.bytesOf_length]; omega) | (simp; omega)
       obtain ⟨x77, hx78⟩ : ∃ e, ((Spec.confAt x cf l (x + (l.length : Int))).1)[i]? = some e := ⟨_, List.getElem?_eq_getElem (by first | omega | (simp only [List.length_append, List.length_cons, List.length_nil, List.length_map, List.length_set, List.length_replicate, Spec.bytesOf_length]; omega) | (simp; omega))⟩
       refine sm_op (ev_at rfl rfl (My.row h73) (getMap i64c hx78) (by first | rfl | omega | simp) hi75 hi76 el42) rfl rfl rfl ?_
       refine sm_op (ev_atL rfl (My.row h73) (getMap i64c hx78) one3 rfl) rfl rfl rfl ?_
       iterate 2 refine sm_op (ev_move rfl) rfl rfl rfl ?_
       have h79 := My.ext hm64 hxl70
       have hi80 : 0 ≤ ((i : Int) : Int) := by omega
       have hi81 : ((i : Int) : Int) < ((((Spec.confAt x cf l (x + (l.length : Int))).1).length : Nat) : Int) := by first | omega | (simp only [List.length_append, List.length_cons, List.length_nil, List.length_map, List.length_set, List.length_replicate, Spec.bytesOf_length]; omega) | (simp; omega)
       refine sm_op (ev_at rfl rfl (My.row h79) (getMap i64c hx78) (by first | rfl | omega | simp) hi80 hi81 el42) rfl rfl rfl ?_
       refine sm_op (ev_atL rfl (My.row h79) (getMap i64c hx78) one3 rfl) rfl rfl rfl ?_
       refine sm_op (ev_int rfl rfl rfl) rfl rfl rfl ?_
       try show aw _ _ _ _ _ _
       by_cases hc82 : (x77 != x77) = true
       ·
        refine aw_condT hc82 rfl ?_
        try show aw _ _ _ _ _ _
        exact absurd hc82 (by simp)
       ·
        rw [Bool.not_eq_true] at hc82; refine aw_condF hc82 rfl ?_
        try show aw _ _ _ _ _ _
        have hc82 : (x77 = x77) := by simpa using hc82
        refine aw_skip ?_
        try show aw _ _ _ _ _ _
        refine aw_reg ?_
        refine st_op (ev_move rfl) rfl rfl rfl ?_
        refine st_op (ev_int64 (c := (i : Int) + 1) rfl rfl rfl (by omega) (by omega)) rfl rfl rfl ?_
        refine st_op (ev_assign rfl) rfl rfl rfl ?_
        try show aw _ _ _ _ _ _
        refine aw_keep [0, 3, 5, 7, 9] (l' := (.cons 0 (.pointer (some ⟨g, 0, none⟩)) (.cons 3 (.pointer (some ⟨b1, 0, none⟩)) (.cons 5 (.slice A50 (((Spec.confAt x cf l (x + (l.length : Int))).1).length) c51) (.cons 7 (.slice A62 (((Spec.confAt x cf l (x + (l.length : Int))).1).length) c63) (.cons 9 (.int .i64 ((i : Int) + 1)) .nil)))))) (by repeat (first | exact Up.done | refine Up.then ?_ | refine Up.inBlock ?_)) rfl ?_
        exact ih71 (i + 1, Hl69) ⟨(show (i + 1) ≤ ((Spec.confAt x cf l (x + (l.length : Int))).1).length from (by omega)), (show Ext H60 Hl69 from hxl70)⟩ (by simp only; omega)
      ·
       rw [Bool.not_eq_true] at hc72; refine aw_condF hc72 rfl ?_
       try show aw _ _ _ _ _ _
       have hc72 := of_decide_eq_false hc72
       refine aw_exit ?_
       try show aw _ _ _ _ _ _
       refine aw_seq ?_
       refine aw_marks (fun b => b < Hl69.next) [(false, false), (false, false), (false, true), (false, true), (true, false), (true, false), (false, true), (false, false), (false, false), (false, false)] mixed (by kernel_rfl) (by kernel_rfl) ?_
       refine sm_op (ev_move rfl) rfl rfl rfl ?_
       have hx84 : Ext H48 Hl69 := (Ext.trans hx61 hxl70)
       have h83 := Ext.blk hx84 (by omega) h55
       refine sm_op (ev_load rfl (lvar_part (l := [.int .i64 x, .int .i64 tm, .string cf, .string dt, .slice rA l.length rc]) many49 h83 rfl rfl (by decide))) rfl rfl rfl ?_
       refine sm_call rfl rfl rfl ent40 rfl rfl rfl ?_
       have h85 := Row.ext h57 hx84
       obtain ⟨_, H87, hs86, hs86v, hx88⟩ := ref21_First_spec Hl69 x ⟨by omega, by omega⟩ tm cf (by omega) dt rA l rc h85 cr (by first | omega | (simp only [List.length_append, List.length_cons, List.length_nil, List.length_map, List.length_set, List.length_replicate, Spec.bytesOf_length]; omega) | (simp; omega)) (by assumption)
       rw [hs86v] at hs86; clear hs86v
       refine ⟨_, H87, hs86, (fun _ b hb => hx88.2 b (by omega)), ?_⟩
       have H87n : Hl69.next ≤ H87.next := hx88.1
       refine sm_call rfl rfl rfl ent13 rfl rfl rfl ?_
       have hx90 : Ext H41 H87 := (Ext.trans (Ext.trans (Ext.trans hx49 hx61) hxl70) hx88)
       have h89 := Row.ext h44 hx90
       have h91 := Ext.blk hx90 (by omega) h46
       obtain ⟨_, H93, hs92, A95, c96, hs92v, hm97, hq98, hx94⟩ := rlog_Get_spec H87 x ⟨by omega, by omega⟩ tm cf (by omega) dt lA l lc h89 cl (by first | omega | (simp only [List.length_append, List.length_cons, List.length_nil, List.length_map, List.length_set, List.length_replicate, Spec.bytesOf_length]; omega) | (simp; omega)) g (by omega) h91 (by assumption) (x + 1) (300 : Int)
       rw [hs92v] at hs92; clear hs92v
       refine ⟨_, H93, hs92, (fun _ b hb => hx94.2 b (by omega)), ?_⟩
       have H93n : H87.next ≤ H93.next := hx94.1
       have hx100 : Ext Hl69 H93 := (Ext.trans hx88 hx94)
       have h99 := Ext.blk hx100 (by omega) h83
       iterate 2 refine sm_read (ev_load rfl (lvar_part (l := [.int .i64 x, .int .i64 tm, .string cf, .string dt, .slice rA l.length rc]) many49 h99 rfl rfl (by decide))) rfl rfl rfl (fun b hb => by cases hb; dsimp only <;> omega) ?_
       refine sm_call rfl rfl rfl ent40 rfl rfl rfl ?_
       have h101 := Row.ext h85 hx100
       obtain ⟨_, H103, hs102, hs102v, hx104⟩ := ref21_First_spec H93 x ⟨by omega, by omega⟩ tm cf (by omega) dt rA l rc h101 cr (by first | omega | (simp only [List.length_append, List.length_cons, List.length_nil, List.length_map, List.length_set, List.length_replicate, Spec.bytesOf_length]; omega) | (simp; omega)) (by assumption)
       rw [hs102v] at hs102; clear hs102v
       refine ⟨_, H103, hs102, (fun _ b hb => hx104.2 b (by omega)), ?_⟩
       have H103n : H93.next ≤ H103.next := hx104.1
       refine sm_call rfl rfl rfl ent30 rfl rfl rfl ?_
       have h105 := Row.ext h101 hx104
       obtain ⟨_, H107, hs106, A109, c110, hs106v, hm111, hq112, hx108⟩ := ref21_Get_spec H103 x ⟨by omega, by omega⟩ tm cf (by omega) dt rA l rc h105 cr (by first | omega | (simp only [List.length_append, List.length_cons, List.length_nil, List.length_map, List.length_set, List.length_replicate, Spec.bytesOf_length]; omega) | (simp; omega)) (by assumption) (x + 1) (300 : Int)
       rw [hs106v] at hs106; clear hs106v
       refine ⟨_, H107, hs106, (fun _ b hb => hx108.2 b (by omega)), ?_⟩
       have H107n : H103.next ≤ H107.next := hx108.1
       refine sm_call rfl rfl rfl ent17 rfl rfl rfl ?_
       have hx114 : Ext H93 H107 := (Ext.trans hx104 hx108)
       have h113 := My.ext hm97 hx114
       obtain ⟨_, H116, hs115, hs115v, hx117⟩ := ref17_EqEntries_spec H107 A95 (Spec.getF x l (x + 1) (300 : Int)) c96 (My.row h113) (My.capF h113 (by first | omega | (simp only [List.length_append, List.length_cons, List.length_nil, List.length_map, List.length_set, List.length_replicate, Spec.bytesOf_length]; omega) | (simp; omega))) (by first | omega | (simp only [List.length_append, List.length_cons, List.length_nil, List.length_map, List.length_set, List.length_replicate, Spec.bytesOf_length]; omega) | (simp; omega)) A109 (Spec.getF x l (x + 1) (300 : Int)) c110 (My.row hm111) (My.capF hm111 (by first | omega | (simp only [List.length_append, List.length_cons, List.length_nil, List.length_map, List.length_set, List.length_replicate, Spec.bytesOf_length]; omega) | (simp; omega))) (by first | omega | (simp only [List.length_append, List.length_cons, List.length_nil, List.length_map, List.length_set, List.length_replicate, Spec.bytesOf_length]; omega) | (simp; omega))
       rw [hs115v] at hs115; clear hs115v
       refine ⟨_, H116, hs115, (fun _ b hb => hx117.2 b (by omega)), ?_⟩
       have H116n : H107.next ≤ H116.next := hx117.1
       refine sm_op (ev_assign rfl) rfl rfl rfl ?_
       try show aw _ _ _ _ _ _
       refine aw_ret ?_
       have hx118 : Ext H H116 := (Ext.trans (Ext.trans (Ext.trans (Ext.trans (Ext.trans (Ext.trans (Ext.trans (Ext.trans (Ext.trans (Ext.trans (Ext.trans (Ext.trans (Ext.trans hx14 hx17) hx24) hx30) hx37) hx42) hx49) hx61) hxl70) hx88) hx94) hx104) hx108) hx117)
       have hres : true = (Spec.eqEs (Spec.getF x l (x + 1) (300 : Int)) (Spec.getF x l (x + 1) (300 : Int))) := by exact (Spec.eqEs_self _).symm
       exact ⟨.bool (Spec.eqEs (Spec.getF x l (x + 1) (300 : Int)) (Spec.getF x l (x + 1) (300 : Int))), rfl, by first | (rw [hres]; done) | rw [← hres], hx118⟩
set_option maxHeartbeats 1600000 in
theorem law_LogAll_spec (H : Heap) (s_index : Int) (s_term : Int) (s_conf : ByteArray) (s_data : ByteArray) (fsA : Option Addr) (fs : List Entry) (fsc : Nat) (hfs : Row H fsA fsc 4 (fs.map Entry.cells)) (cfs : fs.length ≤ fsc) (lfs : fs.length ≤ 140737488355328) (bfs : Spec.EntsI fs) (opsA : Option Addr) (ops : List OpL) (opsc : Nat) (hops : Row H opsA opsc 9 (ops.map OpL.cells)) (cops : ops.length ≤ opsc) (lops : ops.length ≤ 140737488355328) (bops : Spec.OpsI ops) (eops : EachR OpL.sub H ops) : ∃ v H', Spec Try.prog 7 [.agg #[.int .i64 s_index, .int .i64 s_term, .string s_conf, .string s_data], .slice fsA fs.length fsc, .slice opsA ops.length opsc] H v H' ∧ ((v = .bool true) ∧ (Ext H H')) := by
 refine spec_go3 E0_ok 210 (f := 7) Try.func7 rfl rfl rfl ?_
 refine aw_seq ?_
 refine aw_reg ?_
 obtain ⟨b1, H2, he3, b1e, H2n_, hB5, f4⟩ := mem_box (P := Try.prog) H (v := .agg #[.int .i64 s_index, .int .i64 s_term, .string s_conf, .string s_data]) (cs := [.int .i64 s_index, .int .i64 s_term, .string s_conf, .string s_data]) rfl rfl
 refine st_op (he3 _ _ _ _ _ _ _ _ _ rfl) rfl rfl rfl ?_
 have hx6 : Ext H H2 := Ext.new (by omega) H2n_ f4
 have H2n : H.next ≤ H2.next := hx6.1
 refine st_op (ev_assign rfl) rfl rfl rfl ?_
 try show aw _ _ _ _ _ _
 refine aw_seq ?_
 refine aw_reg ?_
 refine st_call rfl rfl rfl ent9 rfl rfl rfl ?_
 obtain ⟨_, H8, hs7, hs7v, hx9⟩ := law21_begun_spec H2 
 rw [hs7v] at hs7; clear hs7v
 rw [hx9] at hs7; clear hx9
 refine ⟨_, H2, hs7, ?_⟩
 refine st_op (ev_assign rfl) rfl rfl rfl ?_
 try show aw _ _ _ _ _ _
 iterate 2 refine aw_seq ?_
 refine aw_reg ?_
 refine st_op (ev_move rfl) rfl rfl rfl ?_
 refine st_op (ev_not rfl) rfl rfl rfl ?_
 try show aw _ _ _ _ _ _
 refine aw_cond (t := false) rfl ?_
 try show aw _ _ _ _ _ _
 refine aw_skip ?_
 try show aw _ _ _ _ _ _
 refine aw_seq ?_
 refine aw_reg ?_
 refine st_op (ev_load rfl (lvar_part (l := [.int .i64 s_index, .int .i64 s_term, .string s_conf, .string s_data]) many23 hB5 rfl rfl (by decide))) rfl rfl rfl ?_
 refine st_call rfl rfl rfl ent10 rfl rfl rfl ?_
 obtain ⟨_, H11, hs10, hs10v, hq13, hq14, hx12⟩ := law21_Snap_spec H2 s_index s_term s_conf s_data
 rw [hs10v] at hs10; clear hs10v
 refine ⟨_, H11, hs10, ?_⟩
 have H11n : H2.next ≤ H11.next := hx12.1
 refine st_op (ev_move rfl) rfl rfl rfl ?_
 refine st_call rfl rfl rfl ent11 rfl rfl rfl ?_
 have hx16 : Ext H H11 := (Ext.trans hx6 hx12)
 have h15 := Row.ext hfs hx16
 obtain ⟨_, H18, hs17, A20, c21, hs17v, hm22, hq23, hx19⟩ := law21_Entries_spec H11 fsA fs fsc h15 cfs (by omega) 12 (by decide)
 rw [hs17v] at hs17; clear hs17v
 refine ⟨_, H18, hs17, ?_⟩
 have H18n : H11.next ≤ H18.next := hx19.1
 have hx25 : Ext H2 H18 := (Ext.trans hx12 hx19)
 have h24 := Ext.blk hx25 (by omega) hB5
 obtain ⟨H26, he27, H26n_, hB28, f29⟩ := mem_store (v := .agg #[.int .i64 s_index, .int .i64 s_term, .string ((cutB s_conf 60, cutB s_data 100).1), .string ((cutB s_conf 60, cutB s_data 100).2)]) (o := 0) (cs' := [.int .i64 s_index, .int .i64 s_term, .string ((cutB s_conf 60, cutB s_data 100).1), .string ((cutB s_conf 60, cutB s_data 100).2)]) 4 rfl rfl size23 h24 rfl rfl rfl
 refine st_op0 (he27 _ _ _ _ _ _ _ _ _ rfl rfl) rfl rfl ?_
 have hf30 : Fr (fun q => q = b1) H18 H26 := Fr.write H26n_ f29
 have H26n : H18.next ≤ H26.next := hf30.1
 refine st_op (ev_assign rfl) rfl rfl rfl ?_
 try show aw _ _ _ _ _ _
 refine aw_seq ?_
 refine aw_reg ?_
 refine st_op (ev_load rfl (lvar_part (l := [.int .i64 s_index, .int .i64 s_term, .string ((cutB s_conf 60, cutB s_data 100).1), .string ((cutB s_conf 60, cutB s_data 100).2)]) many23 hB28 rfl rfl (by decide))) rfl rfl rfl ?_
 refine st_op (ev_move rfl) rfl rfl rfl ?_
 refine st_call rfl rfl rfl ent12 rfl rfl rfl ?_
 have h31 := My.frS hm22 hf30 (fun q hq e => ⟨_, e ▸ h24, show (0 : Nat) ≠ 4 by decide⟩)
 by_cases hc32 : (Spec.newOk s_index s_term ((fs.take (12 : Int).toNat).map Entry.cut)) = true
 ·
  have hok0 := Spec.newOk_ok hc32 (Spec.ents_cut bfs _); have hok1 := Spec.newOk_x hc32; have hok2 := hok0.x0; have hok3 := hok0.len
  obtain ⟨_, H34, hs33, A36, c37, b39, hs33v, hm38, b39l, b39h, b39B, hx35⟩ := rlog_New_spec H26 s_index s_term ((cutB s_conf 60, cutB s_data 100).1) ((cutB s_conf 60, cutB s_data 100).2) A20 ((fs.take (12 : Int).toNat).map Entry.cut) c21 (My.row h31) (My.capF h31 (by first | omega | (simp only [List.length_append, List.length_cons, List.length_nil, List.length_map, List.length_set, List.length_replicate, Spec.bytesOf_length]; omega) | (simp; omega))) (by first | omega | (simp only [List.length_append, List.length_cons, List.length_nil, List.length_map, List.length_set, List.length_replicate, Spec.bytesOf_length]; omega) | (simp; omega)) (by assumption)
  rw [hs33v] at hs33; clear hs33v
  refine ⟨_, H34, hs33, ?_⟩
  have H34n : H26.next ≤ H34.next := hx35.1
  refine st_op (ev_assign rfl) rfl rfl rfl ?_
  try show aw _ _ _ _ _ _
  refine aw_seq ?_
  refine aw_reg ?_
  have h40 := Ext.blk hx35 (by omega) hB28
  refine st_op (ev_load rfl (lvar_part (l := [.int .i64 s_index, .int .i64 s_term, .string ((cutB s_conf 60, cutB s_data 100).1), .string ((cutB s_conf 60, cutB s_data 100).2)]) many23 h40 rfl rfl (by decide))) rfl rfl rfl ?_
  refine st_op (ev_move rfl) rfl rfl rfl ?_
  refine st_call rfl rfl rfl ent21 rfl rfl rfl ?_
  have h41 := My.ext h31 hx35
  obtain ⟨_, H43, hs42, A45, c46, hs42v, hm47, hk48, hx44⟩ := ref21_NewLog_spec H34 s_index s_term ((cutB s_conf 60, cutB s_data 100).1) ((cutB s_conf 60, cutB s_data 100).2) A20 ((fs.take (12 : Int).toNat).map Entry.cut) c21 (My.row h41) (My.capF h41 (by first | omega | (simp only [List.length_append, List.length_cons, List.length_nil, List.length_map, List.length_set, List.length_replicate, Spec.bytesOf_length]; omega) | (simp; omega))) (by first | omega | (simp only [List.length_append, List.length_cons, List.length_nil, List.length_map, List.length_set, List.length_replicate, Spec.bytesOf_length]; omega) | (simp; omega)) (by assumption)
  rw [hs42v] at hs42; clear hs42v
  refine ⟨_, H43, hs42, ?_⟩
  have H43n : H34.next ≤ H43.next := hx44.1
  refine st_op (ev_move rfl) rfl rfl rfl ?_
  iterate 2 refine st_op (ev_extract rfl rfl) rfl rfl rfl ?_
  obtain ⟨b49, H50, he51, b49e, H50n_, hB53, f52⟩ := mem_alloc H43 zero49
  refine st_op (he51 _ _ _ _ _ _ _) rfl rfl rfl ?_
  have hx54 : Ext H43 H50 := Ext.new (by omega) H50n_ f52
  have H50n : H43.next ≤ H50.next := hx54.1
  obtain ⟨H55, he56, H55n_, hB57, f58⟩ := mem_store (v := .agg #[.int .i64 s_index, .int .i64 s_term, .string ((cutB s_conf 60, cutB s_data 100).1), .string ((cutB s_conf 60, cutB s_data 100).2), .slice A45 (((fs.take (12 : Int).toNat).map Entry.cut).length) c46]) (o := 0) (cs' := [.int .i64 s_index, .int .i64 s_term, .string ((cutB s_conf 60, cutB s_data 100).1), .string ((cutB s_conf 60, cutB s_data 100).2), .slice A45 (((fs.take (12 : Int).toNat).map Entry.cut).length) c46]) 5 rfl rfl size49 hB53 rfl rfl rfl
  refine st_op0 (he56 _ _ _ _ _ _ _ _ _ rfl rfl) rfl rfl ?_
  have hf59 : Fr (fun q => q = b49) H50 H55 := Fr.write H55n_ f58
  have H55n : H50.next ≤ H55.next := hf59.1
  refine st_op (ev_assign rfl) rfl rfl rfl ?_
  try show aw _ _ _ _ _ _
  iterate 2 refine aw_seq ?_
  refine aw_reg ?_
  refine st_op (ev_move rfl) rfl rfl rfl ?_
  refine st_op (ev_nilEq rfl rfl Try.underlying28) rfl rfl rfl ?_
  refine st_op (ev_move rfl) rfl rfl rfl ?_
  refine st_op (ev_eqBool isbool4 rfl rfl) rfl rfl rfl ?_
  try show aw _ _ _ _ _ _
  by_cases hc60 : (false == true) = true
  ·
   refine aw_condT hc60 rfl ?_
   try show aw _ _ _ _ _ _
   have hc60 := eq_of_beq hc60
   refine aw_seq ?_
   refine aw_reg ?_
   refine st_op (ev_assign rfl) rfl rfl rfl ?_
   try show aw _ _ _ _ _ _
   refine aw_ret ?_
   have hx61 : Ext H H55 := (Ext.then (Ext.trans (Ext.trans (Ext.trans (Ext.then (Ext.trans hx16 hx19) hf30 (fun q hq e => by omega)) hx35) hx44) hx54) hf59 (fun q hq e => by omega))
   have hres : true = false := by simp_all
   exact ⟨.bool false, rfl, by first | (rw [hres]; done) | rw [← hres], hx61⟩
  ·
   rw [Bool.not_eq_true] at hc60; refine aw_condF hc60 rfl ?_
   try show aw _ _ _ _ _ _
   have hc60 := ne_of_beq_false hc60
   refine aw_skip ?_
   try show aw _ _ _ _ _ _
   iterate 2 refine aw_seq ?_
   refine aw_reg ?_
   refine st_op (ev_move rfl) rfl rfl rfl ?_
   refine st_op (ev_not rfl) rfl rfl rfl ?_
   try show aw _ _ _ _ _ _
   refine aw_cond (t := false) rfl ?_
   try show aw _ _ _ _ _ _
   refine aw_skip ?_
   try show aw _ _ _ _ _ _
   iterate 2 refine aw_seq ?_
   refine aw_reg ?_
   refine st_op (ev_assign rfl) rfl rfl rfl ?_
   try show aw _ _ _ _ _ _
   refine aw_block ?_
   have hx64 : Ext H34 H55 := (Ext.then (Ext.trans hx44 hx54) hf59 (fun q hq e => by omega))
   have h63 := Ext.blk hx64 (by omega) b39B
   have h68 := My.ext hm38 hx64
   have hx73 : Ext H43 H55 := (Ext.then hx54 hf59 (fun q hq e => by omega))
   have h72 := Row.ext hm47 hx73
   refine aw_keep [2, 8, 9, 11] (l' := (.cons 2 (.slice opsA ops.length opsc) (.cons 8 (.pointer (some ⟨b39, 0, none⟩)) (.cons 9 (.pointer (some ⟨b49, 0, none⟩)) (.cons 11 (.int .i64 0) .nil))))) (by repeat (first | exact Up.done | refine Up.then ?_ | refine Up.inBlock ?_)) rfl ?_
   refine aw_iter (α := Nat × Int × Int × ByteArray × ByteArray × Option Addr × Nat × List Entry × Option Addr × Nat × Heap) (fun a => ops.length - a.1) (fun a => (.cons 2 (.slice opsA ops.length opsc) (.cons 8 (.pointer (some ⟨b39, 0, none⟩)) (.cons 9 (.pointer (some ⟨b49, 0, none⟩)) (.cons 11 (.int .i64 (a.1 : Int)) .nil))))) (fun a => a.2.2.2.2.2.2.2.2.2.2) (fun a => (a.1 ≤ ops.length) ∧ (a.1 ≤ 30) ∧ (Spec.LogOk a.2.1 a.2.2.1 a.2.2.2.2.2.2.2.1) ∧ (a.2.2.2.1.size ≤ 60) ∧ (a.2.1 + (a.2.2.2.2.2.2.2.1.length : Int) ≤ 1099511628000 + 12 * (a.1 : Int)) ∧ (a.2.2.2.2.2.2.2.1.length ≤ 200) ∧ (0 ≤ a.2.1 ∧ a.2.1 ≤ 2199023255552) ∧ (Row a.2.2.2.2.2.2.2.2.2.2 a.2.2.2.2.2.1 a.2.2.2.2.2.2.1 4 (a.2.2.2.2.2.2.2.1.map Entry.cells)) ∧ (a.2.2.2.2.2.2.2.1.length ≤ a.2.2.2.2.2.2.1) ∧ (a.2.2.2.2.2.2.2.2.2.2.blk b39 = some ⟨[.int .i64 a.2.1, .int .i64 a.2.2.1, .string a.2.2.2.1, .string a.2.2.2.2.1, .slice a.2.2.2.2.2.1 a.2.2.2.2.2.2.2.1.length a.2.2.2.2.2.2.1], 0, false, false⟩) ∧ (Row a.2.2.2.2.2.2.2.2.2.2 a.2.2.2.2.2.2.2.2.1 a.2.2.2.2.2.2.2.2.2.1 4 (a.2.2.2.2.2.2.2.1.map Entry.cells)) ∧ (a.2.2.2.2.2.2.2.1.length ≤ a.2.2.2.2.2.2.2.2.2.1) ∧ (a.2.2.2.2.2.2.2.2.2.2.blk b49 = some ⟨[.int .i64 a.2.1, .int .i64 a.2.2.1, .string a.2.2.2.1, .string a.2.2.2.2.1, .slice a.2.2.2.2.2.2.2.2.1 a.2.2.2.2.2.2.2.1.length a.2.2.2.2.2.2.2.2.2.1], 0, false, false⟩) ∧ (Fr (fun q => q = b39 ∨ q = b49) H55 a.2.2.2.2.2.2.2.2.2.2)) (0, s_index, s_term, ((cutB s_conf 60, cutB s_data 100).1), ((cutB s_conf 60, cutB s_data 100).2), A36, c37, ((fs.take (12 : Int).toNat).map Entry.cut), A45, c46, H55) ⟨(show 0 ≤ ops.length from Nat.zero_le _), (show 0 ≤ 30 from Nat.zero_le _), (show Spec.LogOk s_index s_term ((fs.take (12 : Int).toNat).map Entry.cut) from hok0), (show ((cutB s_conf 60, cutB s_data 100).1).size ≤ 60 from (by omega)), (show s_index + (((fs.take (12 : Int).toNat).map Entry.cut).length : Int) ≤ 1099511628000 + 12 * (0 : Int) from (by omega)), (show ((fs.take (12 : Int).toNat).map Entry.cut).length ≤ 200 from (by omega)), (show 0 ≤ s_index ∧ s_index ≤ 2199023255552 from ⟨by omega, by omega⟩), (show Row H55 A36 c37 4 (((fs.take (12 : Int).toNat).map Entry.cut).map Entry.cells) from (My.row h68)), (show ((fs.take (12 : Int).toNat).map Entry.cut).length ≤ c37 from (My.capF h68 (by first | omega | (simp only [List.length_append, List.length_cons, List.length_nil, List.length_map, List.length_set, List.length_replicate, Spec.bytesOf_length]; omega) | (simp; omega)))), (show H55.blk b39 = some ⟨[.int .i64 s_index, .int .i64 s_term, .string ((cutB s_conf 60, cutB s_data 100).1), .string ((cutB s_conf 60, cutB s_data 100).2), .slice A36 ((fs.take (12 : Int).toNat).map Entry.cut).length c37], 0, false, false⟩ from h63), (show Row H55 A45 c46 4 (((fs.take (12 : Int).toNat).map Entry.cut).map Entry.cells) from h72), (show ((fs.take (12 : Int).toNat).map Entry.cut).length ≤ c46 from hk48), (show H55.blk b49 = some ⟨[.int .i64 s_index, .int .i64 s_term, .string ((cutB s_conf 60, cutB s_data 100).1), .string ((cutB s_conf 60, cutB s_data 100).2), .slice A45 ((fs.take (12 : Int).toNat).map Entry.cut).length c46], 0, false, false⟩ from hB57), (show Fr (fun q => q = b39 ∨ q = b49) H55 H55 from (Fr.refl _ H55))⟩ ?_
   rintro ⟨i, x, tm, cf, dt, lA, lc, l, rA, rc, Hl62⟩ ⟨hi, hi30, hok, hcf, hxl, hll, hn65, hr66, hr67, hB69, hr70, hr71, hB74, hxl75⟩ ih76
   replace hi : i ≤ ops.length := hi
   replace hi30 : i ≤ 30 := hi30
   replace hok : Spec.LogOk x tm l := hok
   replace hcf : cf.size ≤ 60 := hcf
   replace hxl : x + (l.length : Int) ≤ 1099511628000 + 12 * (i : Int) := hxl
   replace hll : l.length ≤ 200 := hll
   replace hn65 : 0 ≤ x ∧ x ≤ 2199023255552 := hn65
   replace hr66 : Row Hl62 lA lc 4 (l.map Entry.cells) := hr66
   replace hr67 : l.length ≤ lc := hr67
   replace hB69 : Hl62.blk b39 = some ⟨[.int .i64 x, .int .i64 tm, .string cf, .string dt, .slice lA l.length lc], 0, false, false⟩ := hB69
   replace hr70 : Row Hl62 rA rc 4 (l.map Entry.cells) := hr70
   replace hr71 : l.length ≤ rc := hr71
   replace hB74 : Hl62.blk b49 = some ⟨[.int .i64 x, .int .i64 tm, .string cf, .string dt, .slice rA l.length rc], 0, false, false⟩ := hB74
   replace hxl75 : Fr (fun q => q = b39 ∨ q = b49) H55 Hl62 := hxl75
   show aw _ _ _ (RL _ (.cons 2 (.slice opsA ops.length opsc) (.cons 8 (.pointer (some ⟨b39, 0, none⟩)) (.cons 9 (.pointer (some ⟨b49, 0, none⟩)) (.cons 11 (.int .i64 (i : Int)) .nil))))) Hl62 _
   have Hl62n : H55.next ≤ Hl62.next := hxl75.1
   iterate 2 refine aw_seq ?_
   refine aw_reg ?_
   iterate 2 refine st_op (ev_move rfl) rfl rfl rfl ?_
   refine st_op (ev_lenSl rfl Try.underlying47) rfl rfl rfl ?_
   refine st_op (ev_int rfl rfl rfl) rfl rfl rfl ?_
   refine st_op (ev_move rfl) rfl rfl rfl ?_
   refine st_bool 51 rfl (fun hb77 => ?_) (fun hb77 => ?_)
   ·
    have hb77 := of_decide_eq_true hb77
    refine st_op (ev_move rfl) rfl rfl rfl ?_
    refine st_op (ev_int rfl rfl rfl) rfl rfl rfl ?_
    refine st_op (ev_pickT rfl rfl) rfl rfl rfl ?_
    try show aw _ _ _ _ _ _
    by_cases hc78 : (decide ((i : Int) < 30)) = true
    ·
     refine aw_condT hc78 rfl ?_
     try show aw _ _ _ _ _ _
     have hc78 := of_decide_eq_true hc78
     refine aw_skip ?_
     try show aw _ _ _ _ _ _
     refine aw_seq ?_
     refine aw_block ?_
     refine aw_seq ?_
     refine aw_reg ?_
     iterate 2 refine st_op (ev_move rfl) rfl rfl rfl ?_
     have hx80 : Ext H Hl62 := (Ext.then (Ext.then (Ext.trans (Ext.trans (Ext.trans (Ext.then (Ext.trans hx16 hx19) hf30 (fun q hq e => by omega)) hx35) hx44) hx54) hf59 (fun q hq e => by omega)) hxl75 (fun q hq e => by rcases e with e | e <;> omega))
     have h79 := Row.ext hops hx80
     have hi81 : 0 ≤ ((i : Int) : Int) := by omega
     have hi82 : ((i : Int) : Int) < ((ops.length : Nat) : Int) := by first | omega | (simp only [List.length_append, List.length_cons, List.length_nil, List.length_map, List.length_set, List.length_replicate, Spec.bytesOf_length]; omega) | (simp; omega)
     obtain ⟨x83, hx84⟩ : ∃ e, ops[i]? = some e := ⟨_, List.getElem?_eq_getElem (by first | omega | (simp only [List.length_append, List.length_cons, List.length_nil, List.length_map, List.length_set, List.length_replicate, Spec.bytesOf_length]; omega) | (simp; omega))⟩
     have x83I := bops _ (List.mem_of_getElem? hx84)
     have h86 := EachR.ext eops hx80
     have hr85 : Row Hl62 x83.esA x83.esc 4 (x83.es.map Entry.cells) ∧ (x83.es.map Entry.cells).length ≤ x83.esc ∧ (x83.es.map Entry.cells).length ≤ 140737488355328 := EachR.get h86 hx84
     rw [List.length_map] at hr85
     have hr851 := hr85.1
     have hr852 := hr85.2.1
     have hr853 := hr85.2.2
     refine st_op (ev_at rfl rfl h79 (getMap OpL.cells hx84) (by first | rfl | omega | simp) hi81 hi82 el47) rfl rfl rfl ?_
     refine st_op (ev_atN (cs := [.int .i64 x83.kind, .slice x83.esA x83.es.length x83.esc, .int .i64 x83.s.index, .int .i64 x83.s.term, .string x83.s.conf, .string x83.s.data, .int .i64 x83.i, .int .i64 x83.t, .int .i64 x83.n]) rfl h79 (getMap OpL.cells hx84) many53 rfl rfl (by decide)) rfl rfl rfl ?_
     obtain ⟨b87, H88, he89, b87e, H88n_, hB91, f90⟩ := mem_alloc Hl62 zero53
     refine st_op (he89 _ _ _ _ _ _ _) rfl rfl rfl ?_
     have hx92 : Ext Hl62 H88 := Ext.new (by omega) H88n_ f90
     have H88n : Hl62.next ≤ H88.next := hx92.1
     obtain ⟨H93, he94, H93n_, hB95, f96⟩ := mem_store (v := .agg #[.int .i64 x83.kind, .slice x83.esA x83.es.length x83.esc, .int .i64 x83.s.index, .int .i64 x83.s.term, .string x83.s.conf, .string x83.s.data, .int .i64 x83.i, .int .i64 x83.t, .int .i64 x83.n]) (o := 0) (cs' := [.int .i64 x83.kind, .slice x83.esA x83.es.length x83.esc, .int .i64 x83.s.index, .int .i64 x83.s.term, .string x83.s.conf, .string x83.s.data, .int .i64 x83.i, .int .i64 x83.t, .int .i64 x83.n]) 9 rfl rfl size53 hB91 rfl rfl rfl
     refine st_op0 (he94 _ _ _ _ _ _ _ _ _ rfl rfl) rfl rfl ?_
     have hf97 : Fr (fun q => q = b87) H88 H93 := Fr.write H93n_ f96
     have H93n : H88.next ≤ H93.next := hf97.1
     try show aw _ _ _ _ _ _
     refine aw_seq ?_
     refine aw_marks (fun b => b < H93.next) [(false, false), (false, false), (false, true), (false, false), (true, false), (false, false), (false, false), (false, false), (false, false), (false, false)] mixed (by kernel_rfl) (by kernel_rfl) ?_
     refine sm_op (ev_fieldAddr rfl fa53_1 (o' := 1) rfl) rfl rfl rfl ?_
     refine sm_op (ev_load rfl (lvar_one one24 hB95 rfl)) rfl rfl rfl ?_
     refine sm_call rfl rfl rfl ent11 rfl rfl rfl ?_
     have hx99 : Ext Hl62 H93 := (Ext.then hx92 hf97 (fun q hq e => by omega))
     have h98 := Row.ext hr851 hx99
     obtain ⟨_, H101, hs100, A103, c104, hs100v, hm105, hq106, hx102⟩ := law21_Entries_spec H93 x83.esA x83.es x83.esc h98 hr852 (by first | omega | (simp only [List.length_append, List.length_cons, List.length_nil, List.length_map, List.length_set, List.length_replicate, Spec.bytesOf_length]; omega) | (simp; omega)) 12 (by decide)
     rw [hs100v] at hs100; clear hs100v
     refine ⟨_, H101, hs100, (fun _ b hb => hx102.2 b (by omega)), ?_⟩
     have H101n : H93.next ≤ H101.next := hx102.1
     refine sm_op (ev_fieldAddr rfl fa53_2 (o' := 2) rfl) rfl rfl rfl ?_
     have h107 := Ext.blk hx102 (by omega) hB95
     refine sm_read (ev_load rfl (lvar_part (l := [.int .i64 x83.s.index, .int .i64 x83.s.term, .string x83.s.conf, .string x83.s.data]) many23 h107 rfl rfl (by decide))) rfl rfl rfl (fun b hb => by cases hb; dsimp only <;> omega) ?_
     refine sm_call rfl rfl rfl ent10 rfl rfl rfl ?_
     obtain ⟨_, H109, hs108, hs108v, hq111, hq112, hx110⟩ := law21_Snap_spec H101 x83.s.index x83.s.term x83.s.conf x83.s.data
     rw [hs108v] at hs108; clear hs108v
     refine ⟨_, H109, hs108, (fun _ b hb => hx110.2 b (by omega)), ?_⟩
     have H109n : H101.next ≤ H109.next := hx110.1
     refine sm_op (ev_fieldAddr rfl fa53_1 (o' := 1) rfl) rfl rfl rfl ?_
     have h113 := Ext.blk hx110 (by omega) h107
     obtain ⟨H114, he115, H114n_, hB116, f117⟩ := mem_store (v := .slice A103 (((x83.es.take (12 : Int).toNat).map Entry.cut).length) c104) (o := 1) (cs' := [.int .i64 x83.kind, .slice A103 (((x83.es.take (12 : Int).toNat).map Entry.cut).length) c104, .int .i64 x83.s.index, .int .i64 x83.s.term, .string x83.s.conf, .string x83.s.data, .int .i64 x83.i, .int .i64 x83.t, .int .i64 x83.n]) 1 rfl rfl size24 h113 rfl rfl rfl
     refine sm_op0 (he115 _ _ _ _ _ _ _ _ _ rfl rfl) rfl rfl ?_
     have hf118 : Fr (fun q => q = b87) H109 H114 := Fr.write H114n_ f117
     have H114n : H109.next ≤ H114.next := hf118.1
     refine sm_op (ev_fieldAddr rfl fa53_2 (o' := 2) rfl) rfl rfl rfl ?_
     obtain ⟨H119, he120, H119n_, hB121, f122⟩ := mem_store (v := .agg #[.int .i64 x83.s.index, .int .i64 x83.s.term, .string ((cutB x83.s.conf 60, cutB x83.s.data 100).1), .string ((cutB x83.s.conf 60, cutB x83.s.data 100).2)]) (o := 2) (cs' := [.int .i64 x83.kind, .slice A103 (((x83.es.take (12 : Int).toNat).map Entry.cut).length) c104, .int .i64 x83.s.index, .int .i64 x83.s.term, .string ((cutB x83.s.conf 60, cutB x83.s.data 100).1), .string ((cutB x83.s.conf 60, cutB x83.s.data 100).2), .int .i64 x83.i, .int .i64 x83.t, .int .i64 x83.n]) 4 rfl rfl size23 hB116 rfl rfl rfl
     refine sm_op0 (he120 _ _ _ _ _ _ _ _ _ rfl rfl) rfl rfl ?_
     have hf123 : Fr (fun q => q = b87) H114 H119 := Fr.write H119n_ f122
     have H119n : H114.next ≤ H119.next := hf123.1
     try show aw _ _ _ _ _ _
     refine aw_seq ?_
     refine aw_reg ?_
     refine st_op (ev_assign rfl) rfl rfl rfl ?_
     try show aw _ _ _ _ _ _
     iterate 2 refine aw_seq ?_
     refine aw_reg ?_
     refine st_op (ev_fieldAddr rfl fa53_0 (o' := 0) rfl) rfl rfl rfl ?_
     refine st_op (ev_load rfl (lvar_one one3 hB121 rfl)) rfl rfl rfl ?_
     try show aw _ _ _ _ _ _
     refine aw_block ?_
     refine aw_seq ?_
     refine aw_reg ?_
     refine st_op (ev_int rfl rfl rfl) rfl rfl rfl ?_
     refine st_op (ev_assign rfl) rfl rfl rfl ?_
     try show aw _ _ _ _ _ _
     by_cases hc124 : (x83.kind == 0) = true
     ·
      refine aw_condT hc124 rfl ?_
      try show aw _ _ _ _ _ _
      have hc124 := eq_of_beq hc124
      refine aw_seq ?_
      refine aw_reg ?_
      refine st_op (ev_move rfl) rfl rfl rfl ?_
      refine st_op (ev_fieldAddr rfl fa53_1 (o' := 1) rfl) rfl rfl rfl ?_
      refine st_op (ev_load rfl (lvar_one one24 hB121 rfl)) rfl rfl rfl ?_
      refine st_call rfl rfl rfl ent15 rfl rfl rfl ?_
      have hx126 : Ext Hl62 H119 := (Ext.then (Ext.then (Ext.trans (Ext.trans hx99 hx102) hx110) hf118 (fun q hq e => by omega)) hf123 (fun q hq e => by omega))
      have h125 := Row.ext hr66 hx126
      have h127 := Ext.blk hx126 (by omega) hB69
      have h128 := My.ext hm105 hx110
      have h129 := My.frS h128 hf118 (fun q hq e => ⟨_, e ▸ h113, show (0 : Nat) ≠ 4 by decide⟩)
      have h130 := My.frS h129 hf123 (fun q hq e => ⟨_, e ▸ hB116, show (0 : Nat) ≠ 4 by decide⟩)
      obtain ⟨_, H132, hs131, A134, c135, hs131v, hm136, hk140, hB141, hq137, hq138, hq139, hx133⟩ := rlog_Put_spec H119 x ⟨by omega, by omega⟩ tm cf (by omega) dt lA l lc h125 hr67 (by first | omega | (simp only [List.length_append, List.length_cons, List.length_nil, List.length_map, List.length_set, List.length_replicate, Spec.bytesOf_length]; omega) | (simp; omega)) b39 (by omega) h127 (by assumption) A103 ((x83.es.take (12 : Int).toNat).map Entry.cut) c104 (My.row h130) (My.capF h130 (by first | omega | (simp only [List.length_append, List.length_cons, List.length_nil, List.length_map, List.length_set, List.length_replicate, Spec.bytesOf_length]; omega) | (simp; omega))) (by first | omega | (simp only [List.length_append, List.length_cons, List.length_nil, List.length_map, List.length_set, List.length_replicate, Spec.bytesOf_length]; omega) | (simp; omega)) (Spec.ents_cut (by assumption) _)
      rw [hs131v] at hs131; clear hs131v
      refine ⟨_, H132, hs131, ?_⟩
      have H132n : H119.next ≤ H132.next := hx133.1
      refine st_op (ev_move rfl) rfl rfl rfl ?_
      iterate 2 refine st_op (ev_extract rfl rfl) rfl rfl rfl ?_
      iterate 2 refine st_op (ev_assign rfl) rfl rfl rfl ?_
      try show aw _ _ _ _ _ _
      refine aw_seq ?_
      refine aw_reg ?_
      have h142 := Ext.blk hx126 (by omega) hB74
      have h143 := Fr.blk hx133 (by omega) (fun e => (by omega)) h142
      refine st_op (ev_load rfl (lvar_part (l := [.int .i64 x, .int .i64 tm, .string cf, .string dt, .slice rA l.length rc]) many49 h143 rfl rfl (by decide))) rfl rfl rfl ?_
      refine st_op (ev_fieldAddr rfl fa53_1 (o' := 1) rfl) rfl rfl rfl ?_
      have h144 := Fr.blk hx133 (by omega) (fun e => (by omega)) hB121
      refine st_op (ev_load rfl (lvar_one one24 h144 rfl)) rfl rfl rfl ?_
      refine st_call rfl rfl rfl ent22 rfl rfl rfl ?_
      have h145 := Row.ext hr70 hx126
      have h146 := Row.fr h145 hx133 (fun q hq e => ⟨_, e ▸ h127, show (0 : Nat) ≠ 4 by decide⟩)
      have h147 := My.frS h130 hx133 (fun q hq e => ⟨_, e ▸ h127, show (0 : Nat) ≠ 4 by decide⟩)
      obtain ⟨_, H149, hs148, A151, c152, hs148v, hm153, hk157, hq154, hq155, hq156, hx150⟩ := ref21_Put_spec H132 x ⟨by omega, by omega⟩ tm cf (by omega) dt rA l rc h146 hr71 (by first | omega | (simp only [List.length_append, List.length_cons, List.length_nil, List.length_map, List.length_set, List.length_replicate, Spec.bytesOf_length]; omega) | (simp; omega)) (by assumption) A103 ((x83.es.take (12 : Int).toNat).map Entry.cut) c104 (My.row h147) (My.capF h147 (by first | omega | (simp only [List.length_append, List.length_cons, List.length_nil, List.length_map, List.length_set, List.length_replicate, Spec.bytesOf_length]; omega) | (simp; omega))) (by first | omega | (simp only [List.length_append, List.length_cons, List.length_nil, List.length_map, List.length_set, List.length_replicate, Spec.bytesOf_length]; omega) | (simp; omega)) (Spec.ents_cut (by assumption) _)
      rw [hs148v] at hs148; clear hs148v
      refine ⟨_, H149, hs148, ?_⟩
      have H149n : H132.next ≤ H149.next := hx150.1
      refine st_op (ev_move rfl) rfl rfl rfl ?_
      iterate 3 refine st_op (ev_extract rfl rfl) rfl rfl rfl ?_
      obtain ⟨b158, H159, he160, b158e, H159n_, hB162, f161⟩ := mem_alloc H149 zero49
      refine st_op (he160 _ _ _ _ _ _ _) rfl rfl rfl ?_
      have hx163 : Ext H149 H159 := Ext.new (by omega) H159n_ f161
      have H159n : H149.next ≤ H159.next := hx163.1
      obtain ⟨H164, he165, H164n_, hB166, f167⟩ := mem_store (v := .agg #[.int .i64 x, .int .i64 tm, .string cf, .string dt, .slice A151 (((Spec.putF x tm l ((x83.es.take (12 : Int).toNat).map Entry.cut)).2.2).length) c152]) (o := 0) (cs' := [.int .i64 x, .int .i64 tm, .string cf, .string dt, .slice A151 (((Spec.putF x tm l ((x83.es.take (12 : Int).toNat).map Entry.cut)).2.2).length) c152]) 5 rfl rfl size49 hB162 rfl rfl rfl
      refine st_op0 (he165 _ _ _ _ _ _ _ _ _ rfl rfl) rfl rfl ?_
      have hf168 : Fr (fun q => q = b158) H159 H164 := Fr.write H164n_ f167
      have H164n : H159.next ≤ H164.next := hf168.1
      iterate 2 refine st_op (ev_assign rfl) rfl rfl rfl ?_
      try show aw _ _ _ _ _ _
      refine aw_seq ?_
      refine aw_reg ?_
      refine st_op (ev_load rfl (lvar_part (l := [.int .i64 x, .int .i64 tm, .string cf, .string dt, .slice A151 (((Spec.putF x tm l ((x83.es.take (12 : Int).toNat).map Entry.cut)).2.2).length) c152]) many49 hB166 rfl rfl (by decide))) rfl rfl rfl ?_
      have hx170 : Ext H132 H164 := (Ext.then (Ext.trans hx150 hx163) hf168 (fun q hq e => by omega))
      have h169 := Ext.blk hx170 (by omega) h143
      obtain ⟨H171, he172, H171n_, hB173, f174⟩ := mem_store (v := .agg #[.int .i64 x, .int .i64 tm, .string cf, .string dt, .slice A151 (((Spec.putF x tm l ((x83.es.take (12 : Int).toNat).map Entry.cut)).2.2).length) c152]) (o := 0) (cs' := [.int .i64 x, .int .i64 tm, .string cf, .string dt, .slice A151 (((Spec.putF x tm l ((x83.es.take (12 : Int).toNat).map Entry.cut)).2.2).length) c152]) 5 rfl rfl size49 h169 rfl rfl rfl
      refine st_op0 (he172 _ _ _ _ _ _ _ _ _ rfl rfl) rfl rfl ?_
      have hf175 : Fr (fun q => q = b49) H164 H171 := Fr.write H171n_ f174
      have H171n : H164.next ≤ H171.next := hf175.1
      try show aw _ _ _ _ _ _
      refine aw_reg ?_
      iterate 2 refine st_op (ev_move rfl) rfl rfl rfl ?_
      refine st_op (ev_int rfl rfl rfl) rfl rfl rfl ?_
      refine st_op (ev_move rfl) rfl rfl rfl ?_
      refine st_bool 159 rfl (fun hb176 => ?_) (fun hb176 => ?_)
      ·
       have hb176 := eq_of_beq hb176
       iterate 2 refine st_op (ev_move rfl) rfl rfl rfl ?_
       refine st_op (ev_eqBoolS isbool4 rfl rfl) rfl rfl rfl ?_
       refine st_op (ev_pickT rfl rfl) rfl rfl rfl ?_
       refine st_op (ev_assign rfl) rfl rfl rfl ?_
       try show aw _ _ _ _ _ _
       refine aw_seq ?_
       refine aw_reg ?_
       refine st_op (ev_move rfl) rfl rfl rfl ?_
       refine st_op (ev_not rfl) rfl rfl rfl ?_
       iterate 2 refine st_op (ev_move rfl) rfl rfl rfl ?_
       refine st_op (ev_load rfl (lvar_part (l := [.int .i64 x, .int .i64 tm, .string cf, .string dt, .slice A151 (((Spec.putF x tm l ((x83.es.take (12 : Int).toNat).map Entry.cut)).2.2).length) c152]) many49 hB173 rfl rfl (by decide))) rfl rfl rfl ?_
       refine st_call rfl rfl rfl ent31 rfl rfl rfl ?_
       have h177 := Row.ext hm136 hx170
       have h178 := Row.fr h177 hf175 (fun q hq e => ⟨_, e ▸ h169, show (0 : Nat) ≠ 4 by decide⟩)
       have h179 := Ext.blk hx170 (by omega) hB141
       have h180 := Fr.blk hf175 (by omega) (fun e => (by omega)) h179
       have hx182 : Ext H149 H164 := (Ext.then hx163 hf168 (fun q hq e => by omega))
       have h181 := Row.ext hm153 hx182
       have h183 := Row.fr h181 hf175 (fun q hq e => ⟨_, e ▸ h169, show (0 : Nat) ≠ 4 by decide⟩)
       obtain ⟨_, H185, hs184, hs184v, hx186⟩ := law21_Same_spec H171 x ⟨by omega, by omega⟩ tm cf (by omega) dt A134 ((Spec.putF x tm l ((x83.es.take (12 : Int).toNat).map Entry.cut)).2.2) c135 h178 hk140 (by first | omega | (simp only [List.length_append, List.length_cons, List.length_nil, List.length_map, List.length_set, List.length_replicate, Spec.bytesOf_length]; omega) | (simp; omega)) b39 (by omega) h180 (by assumption) A151 c152 h183 hk157
       rw [hs184v] at hs184; clear hs184v
       refine ⟨_, H185, hs184, ?_⟩
       have H185n : H171.next ≤ H185.next := hx186.1
       refine st_op (ev_not rfl) rfl rfl rfl ?_
       refine st_op (ev_pickF rfl rfl) rfl rfl rfl ?_
       try show aw _ _ _ _ _ _
       refine aw_cond (t := false) rfl ?_
       try show aw _ _ _ _ _ _
       refine aw_skip ?_
       try show aw _ _ _ _ _ _
       refine aw_reg ?_
       refine st_op (ev_move rfl) rfl rfl rfl ?_
       refine st_op (ev_int64 (c := (i : Int) + 1) rfl rfl rfl (by omega) (by omega)) rfl rfl rfl ?_
       refine st_op (ev_assign rfl) rfl rfl rfl ?_
       try show aw _ _ _ _ _ _
       have h187 := Row.ext h178 hx186
       have h188 := Ext.blk hx186 (by omega) h180
       have h189 := Row.ext h183 hx186
       have h190 := Ext.blk hx186 (by omega) hB173
       refine aw_keep [2, 8, 9, 11] (l' := (.cons 2 (.slice opsA ops.length opsc) (.cons 8 (.pointer (some ⟨b39, 0, none⟩)) (.cons 9 (.pointer (some ⟨b49, 0, none⟩)) (.cons 11 (.int .i64 ((i : Int) + 1)) .nil))))) (by repeat (first | exact Up.done | refine Up.then ?_ | refine Up.inBlock ?_)) rfl ?_
       exact ih76 (i + 1, x, tm, cf, dt, A134, c135, ((Spec.putF x tm l ((x83.es.take (12 : Int).toNat).map Entry.cut)).2.2), A151, c152, H185) ⟨(show (i + 1) ≤ ops.length from (by omega)), (show (i + 1) ≤ 30 from (by omega)), (show Spec.LogOk x tm ((Spec.putF x tm l ((x83.es.take (12 : Int).toNat).map Entry.cut)).2.2) from hq137), (show cf.size ≤ 60 from hcf), (show x + (((Spec.putF x tm l ((x83.es.take (12 : Int).toNat).map Entry.cut)).2.2).length : Int) ≤ 1099511628000 + 12 * ((i + 1) : Int) from (by omega)), (show ((Spec.putF x tm l ((x83.es.take (12 : Int).toNat).map Entry.cut)).2.2).length ≤ 200 from hq138), (show 0 ≤ x ∧ x ≤ 2199023255552 from ⟨by omega, by omega⟩), (show Row H185 A134 c135 4 (((Spec.putF x tm l ((x83.es.take (12 : Int).toNat).map Entry.cut)).2.2).map Entry.cells) from h187), (show ((Spec.putF x tm l ((x83.es.take (12 : Int).toNat).map Entry.cut)).2.2).length ≤ c135 from hk140), (show H185.blk b39 = some ⟨[.int .i64 x, .int .i64 tm, .string cf, .string dt, .slice A134 ((Spec.putF x tm l ((x83.es.take (12 : Int).toNat).map Entry.cut)).2.2).length c135], 0, false, false⟩ from h188), (show Row H185 A151 c152 4 (((Spec.putF x tm l ((x83.es.take (12 : Int).toNat).map Entry.cut)).2.2).map Entry.cells) from h189), (show ((Spec.putF x tm l ((x83.es.take (12 : Int).toNat).map Entry.cut)).2.2).length ≤ c152 from hk157), (show H185.blk b49 = some ⟨[.int .i64 x, .int .i64 tm, .string cf, .string dt, .slice A151 ((Spec.putF x tm l ((x83.es.take (12 : Int).toNat).map Entry.cut)).2.2).length c152], 0, false, false⟩ from h190), (show Fr (fun q => q = b39 ∨ q = b49) H55 H185 from (Fr.trans (Fr.transG (Fr.transG (Fr.trans (Fr.trans (Fr.transG (Fr.transG (Fr.transG (Fr.trans (Fr.trans (Fr.transG (Fr.trans (Fr.transG (Fr.refl (fun q => q = b39 ∨ q = b49) H55) hxl75 (fun q hq hE e => Or.elim e (fun e => Or.inl (e)) (fun e => Or.inr ((e))))) (hx92.fr fun _ => False) (fun q hq (e : False) => e.elim)) hf97 (fun q hq hE e => absurd hq (by omega))) (hx102.fr fun _ => False) (fun q hq (e : False) => e.elim)) (hx110.fr fun _ => False) (fun q hq (e : False) => e.elim)) hf118 (fun q hq hE e => absurd hq (by omega))) hf123 (fun q hq hE e => absurd hq (by omega))) hx133 (fun q hq hE e => Or.inl (e))) (hx150.fr fun _ => False) (fun q hq (e : False) => e.elim)) (hx163.fr fun _ => False) (fun q hq (e : False) => e.elim)) hf168 (fun q hq hE e => absurd hq (by omega))) hf175 (fun q hq hE e => Or.inr ((e)))) (hx186.fr fun _ => False) (fun q hq (e : False) => e.elim)))⟩ (by simp only; omega)
      ·
       exact absurd hb176 (by simp)
     ·
      rw [Bool.not_eq_true] at hc124; refine aw_condF hc124 rfl ?_
      try show aw _ _ _ _ _ _
      have hc124 := ne_of_beq_false hc124
      refine aw_seq ?_
      refine aw_reg ?_
      refine st_op (ev_int rfl rfl rfl) rfl rfl rfl ?_
      refine st_op (ev_assign rfl) rfl rfl rfl ?_
      try show aw _ _ _ _ _ _
      by_cases hc191 : (x83.kind == 1) = true
      ·
       refine aw_condT hc191 rfl ?_
       try show aw _ _ _ _ _ _
       have hc191 := eq_of_beq hc191
       refine aw_seq ?_
       refine aw_reg ?_
       have hx193 : Ext Hl62 H119 := (Ext.then (Ext.then (Ext.trans (Ext.trans hx99 hx102) hx110) hf118 (fun q hq e => by omega)) hf123 (fun q hq e => by omega))
       have h192 := Ext.blk hx193 (by omega) hB74
       refine st_op (ev_load rfl (lvar_part (l := [.int .i64 x, .int .i64 tm, .string cf, .string dt, .slice rA l.length rc]) many49 h192 rfl rfl (by decide))) rfl rfl rfl ?_
       refine st_op (ev_fieldAddr rfl fa53_2 (o' := 2) rfl) rfl rfl rfl ?_
       refine st_op (ev_load rfl (lvar_part (l := [.int .i64 x83.s.index, .int .i64 x83.s.term, .string ((cutB x83.s.conf 60, cutB x83.s.data 100).1), .string ((cutB x83.s.conf 60, cutB x83.s.data 100).2)]) many23 hB121 rfl rfl (by decide))) rfl rfl rfl ?_
       refine st_call rfl rfl rfl ent23 rfl rfl rfl ?_
       have h194 := Row.ext hr70 hx193
       obtain ⟨_, H196, hs195, A198, c199, hs195v, hm200, hk203, hq201, hq202, hx197⟩ := ref21_Pack_spec H119 x ⟨by omega, by omega⟩ tm cf (by omega) dt rA l rc h194 hr71 (by first | omega | (simp only [List.length_append, List.length_cons, List.length_nil, List.length_map, List.length_set, List.length_replicate, Spec.bytesOf_length]; omega) | (simp; omega)) (by assumption) x83.s.index x83.s.term ((cutB x83.s.conf 60, cutB x83.s.data 100).1) ((cutB x83.s.conf 60, cutB x83.s.data 100).2)
       rw [hs195v] at hs195; clear hs195v
       refine ⟨_, H196, hs195, ?_⟩
       have H196n : H119.next ≤ H196.next := hx197.1
       refine st_op (ev_move rfl) rfl rfl rfl ?_
       iterate 2 refine st_op (ev_extract rfl rfl) rfl rfl rfl ?_
       obtain ⟨b204, H205, he206, b204e, H205n_, hB208, f207⟩ := mem_alloc H196 zero49
       refine st_op (he206 _ _ _ _ _ _ _) rfl rfl rfl ?_
       have hx209 : Ext H196 H205 := Ext.new (by omega) H205n_ f207
       have H205n : H196.next ≤ H205.next := hx209.1
       obtain ⟨H210, he211, H210n_, hB212, f213⟩ := mem_store (v := .agg #[.int .i64 ((Spec.packF x tm cf dt l x83.s.index x83.s.term ((cutB x83.s.conf 60, cutB x83.s.data 100).1) ((cutB x83.s.conf 60, cutB x83.s.data 100).2)).2.1), .int .i64 ((Spec.packF x tm cf dt l x83.s.index x83.s.term ((cutB x83.s.conf 60, cutB x83.s.data 100).1) ((cutB x83.s.conf 60, cutB x83.s.data 100).2)).2.2.1), .string ((Spec.packF x tm cf dt l x83.s.index x83.s.term ((cutB x83.s.conf 60, cutB x83.s.data 100).1) ((cutB x83.s.conf 60, cutB x83.s.data 100).2)).2.2.2.1), .string ((Spec.packF x tm cf dt l x83.s.index x83.s.term ((cutB x83.s.conf 60, cutB x83.s.data 100).1) ((cutB x83.s.conf 60, cutB x83.s.data 100).2)).2.2.2.2.1), .slice A198 (((Spec.packF x tm cf dt l x83.s.index x83.s.term ((cutB x83.s.conf 60, cutB x83.s.data 100).1) ((cutB x83.s.conf 60, cutB x83.s.data 100).2)).2.2.2.2.2).length) c199]) (o := 0) (cs' := [.int .i64 ((Spec.packF x tm cf dt l x83.s.index x83.s.term ((cutB x83.s.conf 60, cutB x83.s.data 100).1) ((cutB x83.s.conf 60, cutB x83.s.data 100).2)).2.1), .int .i64 ((Spec.packF x tm cf dt l x83.s.index x83.s.term ((cutB x83.s.conf 60, cutB x83.s.data 100).1) ((cutB x83.s.conf 60, cutB x83.s.data 100).2)).2.2.1), .string ((Spec.packF x tm cf dt l x83.s.index x83.s.term ((cutB x83.s.conf 60, cutB x83.s.data 100).1) ((cutB x83.s.conf 60, cutB x83.s.data 100).2)).2.2.2.1), .string ((Spec.packF x tm cf dt l x83.s.index x83.s.term ((cutB x83.s.conf 60, cutB x83.s.data 100).1) ((cutB x83.s.conf 60, cutB x83.s.data 100).2)).2.2.2.2.1), .slice A198 (((Spec.packF x tm cf dt l x83.s.index x83.s.term ((cutB x83.s.conf 60, cutB x83.s.data 100).1) ((cutB x83.s.conf 60, cutB x83.s.data 100).2)).2.2.2.2.2).length) c199]) 5 rfl rfl size49 hB208 rfl rfl rfl
       refine st_op0 (he211 _ _ _ _ _ _ _ _ _ rfl rfl) rfl rfl ?_
       have hf214 : Fr (fun q => q = b204) H205 H210 := Fr.write H210n_ f213
       have H210n : H205.next ≤ H210.next := hf214.1
       refine st_op (ev_assign rfl) rfl rfl rfl ?_
       try show aw _ _ _ _ _ _
       refine aw_seq ?_
       refine aw_reg ?_
       refine st_op (ev_load rfl (lvar_part (l := [.int .i64 ((Spec.packF x tm cf dt l x83.s.index x83.s.term ((cutB x83.s.conf 60, cutB x83.s.data 100).1) ((cutB x83.s.conf 60, cutB x83.s.data 100).2)).2.1), .int .i64 ((Spec.packF x tm cf dt l x83.s.index x83.s.term ((cutB x83.s.conf 60, cutB x83.s.data 100).1) ((cutB x83.s.conf 60, cutB x83.s.data 100).2)).2.2.1), .string ((Spec.packF x tm cf dt l x83.s.index x83.s.term ((cutB x83.s.conf 60, cutB x83.s.data 100).1) ((cutB x83.s.conf 60, cutB x83.s.data 100).2)).2.2.2.1), .string ((Spec.packF x tm cf dt l x83.s.index x83.s.term ((cutB x83.s.conf 60, cutB x83.s.data 100).1) ((cutB x83.s.conf 60, cutB x83.s.data 100).2)).2.2.2.2.1), .slice A198 (((Spec.packF x tm cf dt l x83.s.index x83.s.term ((cutB x83.s.conf 60, cutB x83.s.data 100).1) ((cutB x83.s.conf 60, cutB x83.s.data 100).2)).2.2.2.2.2).length) c199]) many49 hB212 rfl rfl (by decide))) rfl rfl rfl ?_
       have hx216 : Ext H119 H210 := (Ext.then (Ext.trans hx197 hx209) hf214 (fun q hq e => by omega))
       have h215 := Ext.blk hx216 (by omega) h192
       obtain ⟨H217, he218, H217n_, hB219, f220⟩ := mem_store (v := .agg #[.int .i64 ((Spec.packF x tm cf dt l x83.s.index x83.s.term ((cutB x83.s.conf 60, cutB x83.s.data 100).1) ((cutB x83.s.conf 60, cutB x83.s.data 100).2)).2.1), .int .i64 ((Spec.packF x tm cf dt l x83.s.index x83.s.term ((cutB x83.s.conf 60, cutB x83.s.data 100).1) ((cutB x83.s.conf 60, cutB x83.s.data 100).2)).2.2.1), .string ((Spec.packF x tm cf dt l x83.s.index x83.s.term ((cutB x83.s.conf 60, cutB x83.s.data 100).1) ((cutB x83.s.conf 60, cutB x83.s.data 100).2)).2.2.2.1), .string ((Spec.packF x tm cf dt l x83.s.index x83.s.term ((cutB x83.s.conf 60, cutB x83.s.data 100).1) ((cutB x83.s.conf 60, cutB x83.s.data 100).2)).2.2.2.2.1), .slice A198 (((Spec.packF x tm cf dt l x83.s.index x83.s.term ((cutB x83.s.conf 60, cutB x83.s.data 100).1) ((cutB x83.s.conf 60, cutB x83.s.data 100).2)).2.2.2.2.2).length) c199]) (o := 0) (cs' := [.int .i64 ((Spec.packF x tm cf dt l x83.s.index x83.s.term ((cutB x83.s.conf 60, cutB x83.s.data 100).1) ((cutB x83.s.conf 60, cutB x83.s.data 100).2)).2.1), .int .i64 ((Spec.packF x tm cf dt l x83.s.index x83.s.term ((cutB x83.s.conf 60, cutB x83.s.data 100).1) ((cutB x83.s.conf 60, cutB x83.s.data 100).2)).2.2.1), .string ((Spec.packF x tm cf dt l x83.s.index x83.s.term ((cutB x83.s.conf 60, cutB x83.s.data 100).1) ((cutB x83.s.conf 60, cutB x83.s.data 100).2)).2.2.2.1), .string ((Spec.packF x tm cf dt l x83.s.index x83.s.term ((cutB x83.s.conf 60, cutB x83.s.data 100).1) ((cutB x83.s.conf 60, cutB x83.s.data 100).2)).2.2.2.2.1), .slice A198 (((Spec.packF x tm cf dt l x83.s.index x83.s.term ((cutB x83.s.conf 60, cutB x83.s.data 100).1) ((cutB x83.s.conf 60, cutB x83.s.data 100).2)).2.2.2.2.2).length) c199]) 5 rfl rfl size49 h215 rfl rfl rfl
       refine st_op0 (he218 _ _ _ _ _ _ _ _ _ rfl rfl) rfl rfl ?_
       have hf221 : Fr (fun q => q = b49) H210 H217 := Fr.write H217n_ f220
       have H217n : H210.next ≤ H217.next := hf221.1
       try show aw _ _ _ _ _ _
       refine aw_reg ?_
       refine st_op (ev_move rfl) rfl rfl rfl ?_
       refine st_op (ev_fieldAddr rfl fa53_2 (o' := 2) rfl) rfl rfl rfl ?_
       have h222 := Ext.blk hx216 (by omega) hB121
       have h223 := Fr.blk hf221 (by omega) (fun e => (by omega)) h222
       refine st_op (ev_load rfl (lvar_part (l := [.int .i64 x83.s.index, .int .i64 x83.s.term, .string ((cutB x83.s.conf 60, cutB x83.s.data 100).1), .string ((cutB x83.s.conf 60, cutB x83.s.data 100).2)]) many23 h223 rfl rfl (by decide))) rfl rfl rfl ?_
       refine st_call rfl rfl rfl ent24 rfl rfl rfl ?_
       have hx225 : Ext Hl62 H210 := (Ext.then (Ext.trans (Ext.trans hx193 hx197) hx209) hf214 (fun q hq e => by omega))
       have h224 := Row.ext hr66 hx225
       have h226 := Row.fr h224 hf221 (fun q hq e => ⟨_, e ▸ h215, show (0 : Nat) ≠ 4 by decide⟩)
       have hx228 : Ext Hl62 H210 := (Ext.then (Ext.trans (Ext.trans hx193 hx197) hx209) hf214 (fun q hq e => by omega))
       have h227 := Ext.blk hx228 (by omega) hB69
       have h229 := Fr.blk hf221 (by omega) (fun e => (by omega)) h227
       obtain ⟨_, H231, hs230, A233, c234, hs230v, hm235, hk238, hB239, hq236, hq237, hx232⟩ := rlog_Pack_spec H217 x ⟨by omega, by omega⟩ tm cf (by omega) dt lA l lc h226 hr67 (by first | omega | (simp only [List.length_append, List.length_cons, List.length_nil, List.length_map, List.length_set, List.length_replicate, Spec.bytesOf_length]; omega) | (simp; omega)) b39 (by omega) h229 (by assumption) x83.s.index x83.s.term ((cutB x83.s.conf 60, cutB x83.s.data 100).1) ((cutB x83.s.conf 60, cutB x83.s.data 100).2)
       rw [hs230v] at hs230; clear hs230v
       refine ⟨_, H231, hs230, ?_⟩
       have H231n : H217.next ≤ H231.next := hx232.1
       have pkc : ((Spec.packF x tm cf dt l x83.s.index x83.s.term ((cutB x83.s.conf 60, cutB x83.s.data 100).1) ((cutB x83.s.conf 60, cutB x83.s.data 100).2)).2.2.2.1).size ≤ 60 := Spec.packF_cf hcf (by omega)
       have pko : Spec.LogOk (Spec.packF x tm cf dt l x83.s.index x83.s.term ((cutB x83.s.conf 60, cutB x83.s.data 100).1) ((cutB x83.s.conf 60, cutB x83.s.data 100).2)).2.1 (Spec.packF x tm cf dt l x83.s.index x83.s.term ((cutB x83.s.conf 60, cutB x83.s.data 100).1) ((cutB x83.s.conf 60, cutB x83.s.data 100).2)).2.2.1 (Spec.packF x tm cf dt l x83.s.index x83.s.term ((cutB x83.s.conf 60, cutB x83.s.data 100).1) ((cutB x83.s.conf 60, cutB x83.s.data 100).2)).2.2.2.2.2 := Spec.packF_ok hok (by omega)
       refine st_op (ev_move rfl) rfl rfl rfl ?_
       refine st_op (ev_eqBoolS isbool4 rfl rfl) rfl rfl rfl ?_
       refine st_op (ev_assign rfl) rfl rfl rfl ?_
       try show aw _ _ _ _ _ _
       refine aw_seq ?_
       refine aw_reg ?_
       refine st_op (ev_move rfl) rfl rfl rfl ?_
       refine st_op (ev_not rfl) rfl rfl rfl ?_
       iterate 2 refine st_op (ev_move rfl) rfl rfl rfl ?_
       have h240 := Fr.blk hx232 (by omega) (fun e => (by omega)) hB219
       refine st_op (ev_load rfl (lvar_part (l := [.int .i64 ((Spec.packF x tm cf dt l x83.s.index x83.s.term ((cutB x83.s.conf 60, cutB x83.s.data 100).1) ((cutB x83.s.conf 60, cutB x83.s.data 100).2)).2.1), .int .i64 ((Spec.packF x tm cf dt l x83.s.index x83.s.term ((cutB x83.s.conf 60, cutB x83.s.data 100).1) ((cutB x83.s.conf 60, cutB x83.s.data 100).2)).2.2.1), .string ((Spec.packF x tm cf dt l x83.s.index x83.s.term ((cutB x83.s.conf 60, cutB x83.s.data 100).1) ((cutB x83.s.conf 60, cutB x83.s.data 100).2)).2.2.2.1), .string ((Spec.packF x tm cf dt l x83.s.index x83.s.term ((cutB x83.s.conf 60, cutB x83.s.data 100).1) ((cutB x83.s.conf 60, cutB x83.s.data 100).2)).2.2.2.2.1), .slice A198 (((Spec.packF x tm cf dt l x83.s.index x83.s.term ((cutB x83.s.conf 60, cutB x83.s.data 100).1) ((cutB x83.s.conf 60, cutB x83.s.data 100).2)).2.2.2.2.2).length) c199]) many49 h240 rfl rfl (by decide))) rfl rfl rfl ?_
       refine st_call rfl rfl rfl ent31 rfl rfl rfl ?_
       have hx242 : Ext H196 H210 := (Ext.then hx209 hf214 (fun q hq e => by omega))
       have h241 := Row.ext hm200 hx242
       have h243 := Row.fr h241 hf221 (fun q hq e => ⟨_, e ▸ h215, show (0 : Nat) ≠ 4 by decide⟩)
       have h244 := Row.fr h243 hx232 (fun q hq e => ⟨_, e ▸ h229, show (0 : Nat) ≠ 4 by decide⟩)
       obtain ⟨_, H246, hs245, hs245v, hx247⟩ := law21_Same_spec H231 ((Spec.packF x tm cf dt l x83.s.index x83.s.term ((cutB x83.s.conf 60, cutB x83.s.data 100).1) ((cutB x83.s.conf 60, cutB x83.s.data 100).2)).2.1) ⟨by omega, by omega⟩ ((Spec.packF x tm cf dt l x83.s.index x83.s.term ((cutB x83.s.conf 60, cutB x83.s.data 100).1) ((cutB x83.s.conf 60, cutB x83.s.data 100).2)).2.2.1) ((Spec.packF x tm cf dt l x83.s.index x83.s.term ((cutB x83.s.conf 60, cutB x83.s.data 100).1) ((cutB x83.s.conf 60, cutB x83.s.data 100).2)).2.2.2.1) (by omega) ((Spec.packF x tm cf dt l x83.s.index x83.s.term ((cutB x83.s.conf 60, cutB x83.s.data 100).1) ((cutB x83.s.conf 60, cutB x83.s.data 100).2)).2.2.2.2.1) A233 ((Spec.packF x tm cf dt l x83.s.index x83.s.term ((cutB x83.s.conf 60, cutB x83.s.data 100).1) ((cutB x83.s.conf 60, cutB x83.s.data 100).2)).2.2.2.2.2) c234 hm235 hk238 (by first | omega | (simp only [List.length_append, List.length_cons, List.length_nil, List.length_map, List.length_set, List.length_replicate, Spec.bytesOf_length]; omega) | (simp; omega)) b39 (by omega) hB239 (by assumption) A198 c199 h244 hk203
       rw [hs245v] at hs245; clear hs245v
       refine ⟨_, H246, hs245, ?_⟩
       have H246n : H231.next ≤ H246.next := hx247.1
       refine st_op (ev_not rfl) rfl rfl rfl ?_
       refine st_op (ev_pickF rfl rfl) rfl rfl rfl ?_
       try show aw _ _ _ _ _ _
       refine aw_cond (t := false) rfl ?_
       try show aw _ _ _ _ _ _
       refine aw_skip ?_
       try show aw _ _ _ _ _ _
       refine aw_reg ?_
       refine st_op (ev_move rfl) rfl rfl rfl ?_
       refine st_op (ev_int64 (c := (i : Int) + 1) rfl rfl rfl (by omega) (by omega)) rfl rfl rfl ?_
       refine st_op (ev_assign rfl) rfl rfl rfl ?_
       try show aw _ _ _ _ _ _
       have h248 := Row.ext hm235 hx247
       have h249 := Ext.blk hx247 (by omega) hB239
       have h250 := Row.ext h244 hx247
       have h251 := Ext.blk hx247 (by omega) h240
       refine aw_keep [2, 8, 9, 11] (l' := (.cons 2 (.slice opsA ops.length opsc) (.cons 8 (.pointer (some ⟨b39, 0, none⟩)) (.cons 9 (.pointer (some ⟨b49, 0, none⟩)) (.cons 11 (.int .i64 ((i : Int) + 1)) .nil))))) (by repeat (first | exact Up.done | refine Up.then ?_ | refine Up.inBlock ?_)) rfl ?_
       exact ih76 (i + 1, ((Spec.packF x tm cf dt l x83.s.index x83.s.term ((cutB x83.s.conf 60, cutB x83.s.data 100).1) ((cutB x83.s.conf 60, cutB x83.s.data 100).2)).2.1), ((Spec.packF x tm cf dt l x83.s.index x83.s.term ((cutB x83.s.conf 60, cutB x83.s.data 100).1) ((cutB x83.s.conf 60, cutB x83.s.data 100).2)).2.2.1), ((Spec.packF x tm cf dt l x83.s.index x83.s.term ((cutB x83.s.conf 60, cutB x83.s.data 100).1) ((cutB x83.s.conf 60, cutB x83.s.data 100).2)).2.2.2.1), ((Spec.packF x tm cf dt l x83.s.index x83.s.term ((cutB x83.s.conf 60, cutB x83.s.data 100).1) ((cutB x83.s.conf 60, cutB x83.s.data 100).2)).2.2.2.2.1), A233, c234, ((Spec.packF x tm cf dt l x83.s.index x83.s.term ((cutB x83.s.conf 60, cutB x83.s.data 100).1) ((cutB x83.s.conf 60, cutB x83.s.data 100).2)).2.2.2.2.2), A198, c199, H246) ⟨(show (i + 1) ≤ ops.length from (by omega)), (show (i + 1) ≤ 30 from (by omega)), (show Spec.LogOk ((Spec.packF x tm cf dt l x83.s.index x83.s.term ((cutB x83.s.conf 60, cutB x83.s.data 100).1) ((cutB x83.s.conf 60, cutB x83.s.data 100).2)).2.1) ((Spec.packF x tm cf dt l x83.s.index x83.s.term ((cutB x83.s.conf 60, cutB x83.s.data 100).1) ((cutB x83.s.conf 60, cutB x83.s.data 100).2)).2.2.1) ((Spec.packF x tm cf dt l x83.s.index x83.s.term ((cutB x83.s.conf 60, cutB x83.s.data 100).1) ((cutB x83.s.conf 60, cutB x83.s.data 100).2)).2.2.2.2.2) from pko), (show ((Spec.packF x tm cf dt l x83.s.index x83.s.term ((cutB x83.s.conf 60, cutB x83.s.data 100).1) ((cutB x83.s.conf 60, cutB x83.s.data 100).2)).2.2.2.1).size ≤ 60 from pkc), (show ((Spec.packF x tm cf dt l x83.s.index x83.s.term ((cutB x83.s.conf 60, cutB x83.s.data 100).1) ((cutB x83.s.conf 60, cutB x83.s.data 100).2)).2.1) + (((Spec.packF x tm cf dt l x83.s.index x83.s.term ((cutB x83.s.conf 60, cutB x83.s.data 100).1) ((cutB x83.s.conf 60, cutB x83.s.data 100).2)).2.2.2.2.2).length : Int) ≤ 1099511628000 + 12 * ((i + 1) : Int) from (by omega)), (show ((Spec.packF x tm cf dt l x83.s.index x83.s.term ((cutB x83.s.conf 60, cutB x83.s.data 100).1) ((cutB x83.s.conf 60, cutB x83.s.data 100).2)).2.2.2.2.2).length ≤ 200 from hq237), (show 0 ≤ ((Spec.packF x tm cf dt l x83.s.index x83.s.term ((cutB x83.s.conf 60, cutB x83.s.data 100).1) ((cutB x83.s.conf 60, cutB x83.s.data 100).2)).2.1) ∧ ((Spec.packF x tm cf dt l x83.s.index x83.s.term ((cutB x83.s.conf 60, cutB x83.s.data 100).1) ((cutB x83.s.conf 60, cutB x83.s.data 100).2)).2.1) ≤ 2199023255552 from ⟨by omega, by omega⟩), (show Row H246 A233 c234 4 (((Spec.packF x tm cf dt l x83.s.index x83.s.term ((cutB x83.s.conf 60, cutB x83.s.data 100).1) ((cutB x83.s.conf 60, cutB x83.s.data 100).2)).2.2.2.2.2).map Entry.cells) from h248), (show ((Spec.packF x tm cf dt l x83.s.index x83.s.term ((cutB x83.s.conf 60, cutB x83.s.data 100).1) ((cutB x83.s.conf 60, cutB x83.s.data 100).2)).2.2.2.2.2).length ≤ c234 from hk238), (show H246.blk b39 = some ⟨[.int .i64 ((Spec.packF x tm cf dt l x83.s.index x83.s.term ((cutB x83.s.conf 60, cutB x83.s.data 100).1) ((cutB x83.s.conf 60, cutB x83.s.data 100).2)).2.1), .int .i64 ((Spec.packF x tm cf dt l x83.s.index x83.s.term ((cutB x83.s.conf 60, cutB x83.s.data 100).1) ((cutB x83.s.conf 60, cutB x83.s.data 100).2)).2.2.1), .string ((Spec.packF x tm cf dt l x83.s.index x83.s.term ((cutB x83.s.conf 60, cutB x83.s.data 100).1) ((cutB x83.s.conf 60, cutB x83.s.data 100).2)).2.2.2.1), .string ((Spec.packF x tm cf dt l x83.s.index x83.s.term ((cutB x83.s.conf 60, cutB x83.s.data 100).1) ((cutB x83.s.conf 60, cutB x83.s.data 100).2)).2.2.2.2.1), .slice A233 ((Spec.packF x tm cf dt l x83.s.index x83.s.term ((cutB x83.s.conf 60, cutB x83.s.data 100).1) ((cutB x83.s.conf 60, cutB x83.s.data 100).2)).2.2.2.2.2).length c234], 0, false, false⟩ from h249), (show Row H246 A198 c199 4 (((Spec.packF x tm cf dt l x83.s.index x83.s.term ((cutB x83.s.conf 60, cutB x83.s.data 100).1) ((cutB x83.s.conf 60, cutB x83.s.data 100).2)).2.2.2.2.2).map Entry.cells) from h250), (show ((Spec.packF x tm cf dt l x83.s.index x83.s.term ((cutB x83.s.conf 60, cutB x83.s.data 100).1) ((cutB x83.s.conf 60, cutB x83.s.data 100).2)).2.2.2.2.2).length ≤ c199 from hk203), (show H246.blk b49 = some ⟨[.int .i64 ((Spec.packF x tm cf dt l x83.s.index x83.s.term ((cutB x83.s.conf 60, cutB x83.s.data 100).1) ((cutB x83.s.conf 60, cutB x83.s.data 100).2)).2.1), .int .i64 ((Spec.packF x tm cf dt l x83.s.index x83.s.term ((cutB x83.s.conf 60, cutB x83.s.data 100).1) ((cutB x83.s.conf 60, cutB x83.s.data 100).2)).2.2.1), .string ((Spec.packF x tm cf dt l x83.s.index x83.s.term ((cutB x83.s.conf 60, cutB x83.s.data 100).1) ((cutB x83.s.conf 60, cutB x83.s.data 100).2)).2.2.2.1), .string ((Spec.packF x tm cf dt l x83.s.index x83.s.term ((cutB x83.s.conf 60, cutB x83.s.data 100).1) ((cutB x83.s.conf 60, cutB x83.s.data 100).2)).2.2.2.2.1), .slice A198 ((Spec.packF x tm cf dt l x83.s.index x83.s.term ((cutB x83.s.conf 60, cutB x83.s.data 100).1) ((cutB x83.s.conf 60, cutB x83.s.data 100).2)).2.2.2.2.2).length c199], 0, false, false⟩ from h251), (show Fr (fun q => q = b39 ∨ q = b49) H55 H246 from (Fr.trans (Fr.transG (Fr.transG (Fr.transG (Fr.trans (Fr.trans (Fr.transG (Fr.transG (Fr.trans (Fr.trans (Fr.transG (Fr.trans (Fr.transG (Fr.refl (fun q => q = b39 ∨ q = b49) H55) hxl75 (fun q hq hE e => Or.elim e (fun e => Or.inl (e)) (fun e => Or.inr ((e))))) (hx92.fr fun _ => False) (fun q hq (e : False) => e.elim)) hf97 (fun q hq hE e => absurd hq (by omega))) (hx102.fr fun _ => False) (fun q hq (e : False) => e.elim)) (hx110.fr fun _ => False) (fun q hq (e : False) => e.elim)) hf118 (fun q hq hE e => absurd hq (by omega))) hf123 (fun q hq hE e => absurd hq (by omega))) (hx197.fr fun _ => False) (fun q hq (e : False) => e.elim)) (hx209.fr fun _ => False) (fun q hq (e : False) => e.elim)) hf214 (fun q hq hE e => absurd hq (by omega))) hf221 (fun q hq hE e => Or.inr ((e)))) hx232 (fun q hq hE e => Or.inl (e))) (hx247.fr fun _ => False) (fun q hq (e : False) => e.elim)))⟩ (by simp only; omega)
      ·
       rw [Bool.not_eq_true] at hc191; refine aw_condF hc191 rfl ?_
       try show aw _ _ _ _ _ _
       have hc191 := ne_of_beq_false hc191
       refine aw_seq ?_
       refine aw_reg ?_
       refine st_op (ev_int rfl rfl rfl) rfl rfl rfl ?_
       refine st_op (ev_assign rfl) rfl rfl rfl ?_
       try show aw _ _ _ _ _ _
       by_cases hc252 : (x83.kind == 2) = true
       ·
        refine aw_condT hc252 rfl ?_
        try show aw _ _ _ _ _ _
        have hc252 := eq_of_beq hc252
        iterate 2 refine aw_seq ?_
        refine aw_reg ?_
        refine st_op (ev_fieldAddr rfl fa53_2 (o' := 2) rfl) rfl rfl rfl ?_
        refine st_op (ev_fieldAddr rfl fa23_0 (o' := 2) rfl) rfl rfl rfl ?_
        refine st_op (ev_load rfl (lvar_one one2 hB121 rfl)) rfl rfl rfl ?_
        refine st_op (ev_int rfl rfl rfl) rfl rfl rfl ?_
        refine st_op (ev_move rfl) rfl rfl rfl ?_
        refine st_bool 186 rfl (fun hb253 => ?_) (fun hb253 => ?_)
        ·
         have hb253 := of_decide_eq_true hb253
         iterate 4 refine st_skip rfl rfl rfl ?_
         refine st_op (ev_pickT rfl rfl) rfl rfl rfl ?_
         try show aw _ _ _ _ _ _
         refine aw_cond (t := true) rfl ?_
         try show aw _ _ _ _ _ _
         refine aw_exit ?_
         try show aw _ _ _ _ _ _
         refine aw_reg ?_
         refine st_op (ev_move rfl) rfl rfl rfl ?_
         refine st_op (ev_int64 (c := (i : Int) + 1) rfl rfl rfl (by omega) (by omega)) rfl rfl rfl ?_
         refine st_op (ev_assign rfl) rfl rfl rfl ?_
         try show aw _ _ _ _ _ _
         have hx255 : Ext Hl62 H119 := (Ext.then (Ext.then (Ext.trans (Ext.trans hx99 hx102) hx110) hf118 (fun q hq e => by omega)) hf123 (fun q hq e => by omega))
         have h254 := Row.ext hr66 hx255
         have h256 := Ext.blk hx255 (by omega) hB69
         have h257 := Row.ext hr70 hx255
         have h258 := Ext.blk hx255 (by omega) hB74
         refine aw_keep [2, 8, 9, 11] (l' := (.cons 2 (.slice opsA ops.length opsc) (.cons 8 (.pointer (some ⟨b39, 0, none⟩)) (.cons 9 (.pointer (some ⟨b49, 0, none⟩)) (.cons 11 (.int .i64 ((i : Int) + 1)) .nil))))) (by repeat (first | exact Up.done | refine Up.then ?_ | refine Up.inBlock ?_)) rfl ?_
         exact ih76 (i + 1, x, tm, cf, dt, lA, lc, l, rA, rc, H119) ⟨(show (i + 1) ≤ ops.length from (by omega)), (show (i + 1) ≤ 30 from (by omega)), (show Spec.LogOk x tm l from hok), (show cf.size ≤ 60 from hcf), (show x + (l.length : Int) ≤ 1099511628000 + 12 * ((i + 1) : Int) from (by omega)), (show l.length ≤ 200 from hll), (show 0 ≤ x ∧ x ≤ 2199023255552 from ⟨by omega, by omega⟩), (show Row H119 lA lc 4 (l.map Entry.cells) from h254), (show l.length ≤ lc from hr67), (show H119.blk b39 = some ⟨[.int .i64 x, .int .i64 tm, .string cf, .string dt, .slice lA l.length lc], 0, false, false⟩ from h256), (show Row H119 rA rc 4 (l.map Entry.cells) from h257), (show l.length ≤ rc from hr71), (show H119.blk b49 = some ⟨[.int .i64 x, .int .i64 tm, .string cf, .string dt, .slice rA l.length rc], 0, false, false⟩ from h258), (show Fr (fun q => q = b39 ∨ q = b49) H55 H119 from (Fr.transG (Fr.transG (Fr.trans (Fr.trans (Fr.transG (Fr.trans (Fr.transG (Fr.refl (fun q => q = b39 ∨ q = b49) H55) hxl75 (fun q hq hE e => Or.elim e (fun e => Or.inl (e)) (fun e => Or.inr ((e))))) (hx92.fr fun _ => False) (fun q hq (e : False) => e.elim)) hf97 (fun q hq hE e => absurd hq (by omega))) (hx102.fr fun _ => False) (fun q hq (e : False) => e.elim)) (hx110.fr fun _ => False) (fun q hq (e : False) => e.elim)) hf118 (fun q hq hE e => absurd hq (by omega))) hf123 (fun q hq hE e => absurd hq (by omega))))⟩ (by simp only; omega)
        ·
         have hb253 := of_decide_eq_false hb253
         refine st_op (ev_fieldAddr rfl fa53_2 (o' := 2) rfl) rfl rfl rfl ?_
         refine st_op (ev_fieldAddr rfl fa23_0 (o' := 2) rfl) rfl rfl rfl ?_
         refine st_op (ev_load rfl (lvar_one one2 hB121 rfl)) rfl rfl rfl ?_
         refine st_op (ev_int rfl rfl rfl) rfl rfl rfl ?_
         refine st_op (ev_pickF rfl rfl) rfl rfl rfl ?_
         try show aw _ _ _ _ _ _
         by_cases hc259 : (decide (x83.s.index > 1099511627776)) = true
         ·
          refine aw_condT hc259 rfl ?_
          try show aw _ _ _ _ _ _
          have hc259 := of_decide_eq_true hc259
          refine aw_exit ?_
          try show aw _ _ _ _ _ _
          refine aw_reg ?_
          refine st_op (ev_move rfl) rfl rfl rfl ?_
          refine st_op (ev_int64 (c := (i : Int) + 1) rfl rfl rfl (by omega) (by omega)) rfl rfl rfl ?_
          refine st_op (ev_assign rfl) rfl rfl rfl ?_
          try show aw _ _ _ _ _ _
          have hx261 : Ext Hl62 H119 := (Ext.then (Ext.then (Ext.trans (Ext.trans hx99 hx102) hx110) hf118 (fun q hq e => by omega)) hf123 (fun q hq e => by omega))
          have h260 := Row.ext hr66 hx261
          have h262 := Ext.blk hx261 (by omega) hB69
          have h263 := Row.ext hr70 hx261
          have h264 := Ext.blk hx261 (by omega) hB74
          refine aw_keep [2, 8, 9, 11] (l' := (.cons 2 (.slice opsA ops.length opsc) (.cons 8 (.pointer (some ⟨b39, 0, none⟩)) (.cons 9 (.pointer (some ⟨b49, 0, none⟩)) (.cons 11 (.int .i64 ((i : Int) + 1)) .nil))))) (by repeat (first | exact Up.done | refine Up.then ?_ | refine Up.inBlock ?_)) rfl ?_
          exact ih76 (i + 1, x, tm, cf, dt, lA, lc, l, rA, rc, H119) ⟨(show (i + 1) ≤ ops.length from (by omega)), (show (i + 1) ≤ 30 from (by omega)), (show Spec.LogOk x tm l from hok), (show cf.size ≤ 60 from hcf), (show x + (l.length : Int) ≤ 1099511628000 + 12 * ((i + 1) : Int) from (by omega)), (show l.length ≤ 200 from hll), (show 0 ≤ x ∧ x ≤ 2199023255552 from ⟨by omega, by omega⟩), (show Row H119 lA lc 4 (l.map Entry.cells) from h260), (show l.length ≤ lc from hr67), (show H119.blk b39 = some ⟨[.int .i64 x, .int .i64 tm, .string cf, .string dt, .slice lA l.length lc], 0, false, false⟩ from h262), (show Row H119 rA rc 4 (l.map Entry.cells) from h263), (show l.length ≤ rc from hr71), (show H119.blk b49 = some ⟨[.int .i64 x, .int .i64 tm, .string cf, .string dt, .slice rA l.length rc], 0, false, false⟩ from h264), (show Fr (fun q => q = b39 ∨ q = b49) H55 H119 from (Fr.transG (Fr.transG (Fr.trans (Fr.trans (Fr.transG (Fr.trans (Fr.transG (Fr.refl (fun q => q = b39 ∨ q = b49) H55) hxl75 (fun q hq hE e => Or.elim e (fun e => Or.inl (e)) (fun e => Or.inr ((e))))) (hx92.fr fun _ => False) (fun q hq (e : False) => e.elim)) hf97 (fun q hq hE e => absurd hq (by omega))) (hx102.fr fun _ => False) (fun q hq (e : False) => e.elim)) (hx110.fr fun _ => False) (fun q hq (e : False) => e.elim)) hf118 (fun q hq hE e => absurd hq (by omega))) hf123 (fun q hq hE e => absurd hq (by omega))))⟩ (by simp only; omega)
         ·
          rw [Bool.not_eq_true] at hc259; refine aw_condF hc259 rfl ?_
          try show aw _ _ _ _ _ _
          have hc259 := of_decide_eq_false hc259
          refine aw_skip ?_
          try show aw _ _ _ _ _ _
          refine aw_seq ?_
          refine aw_reg ?_
          refine st_op (ev_move rfl) rfl rfl rfl ?_
          refine st_op (ev_fieldAddr rfl fa53_2 (o' := 2) rfl) rfl rfl rfl ?_
          refine st_op (ev_load rfl (lvar_part (l := [.int .i64 x83.s.index, .int .i64 x83.s.term, .string ((cutB x83.s.conf 60, cutB x83.s.data 100).1), .string ((cutB x83.s.conf 60, cutB x83.s.data 100).2)]) many23 hB121 rfl rfl (by decide))) rfl rfl rfl ?_
          refine st_call rfl rfl rfl ent25 rfl rfl rfl ?_
          have hx266 : Ext Hl62 H119 := (Ext.then (Ext.then (Ext.trans (Ext.trans hx99 hx102) hx110) hf118 (fun q hq e => by omega)) hf123 (fun q hq e => by omega))
          have h265 := Row.ext hr66 hx266
          have h267 := Ext.blk hx266 (by omega) hB69
          obtain ⟨_, H269, hs268, A271, c272, hs268v, hm273, hk274, hB275, hx270⟩ := rlog_Set_spec H119 x ⟨by omega, by omega⟩ tm cf (by omega) dt lA l lc h265 hr67 (by first | omega | (simp only [List.length_append, List.length_cons, List.length_nil, List.length_map, List.length_set, List.length_replicate, Spec.bytesOf_length]; omega) | (simp; omega)) b39 (by omega) h267 (by assumption) x83.s.index x83.s.term ((cutB x83.s.conf 60, cutB x83.s.data 100).1) ((cutB x83.s.conf 60, cutB x83.s.data 100).2)
          rw [hs268v] at hs268; clear hs268v
          refine ⟨_, H269, hs268, ?_⟩
          have H269n : H119.next ≤ H269.next := hx270.1
          have sto : Spec.LogOk x83.s.index x83.s.term [] := Spec.setOk (by omega) (by omega)
          try show aw _ _ _ _ _ _
          refine aw_reg ?_
          refine st_op (ev_fieldAddr rfl fa53_2 (o' := 2) rfl) rfl rfl rfl ?_
          have h276 := Fr.blk hx270 (by omega) (fun e => (by omega)) hB121
          refine st_op (ev_load rfl (lvar_part (l := [.int .i64 x83.s.index, .int .i64 x83.s.term, .string ((cutB x83.s.conf 60, cutB x83.s.data 100).1), .string ((cutB x83.s.conf 60, cutB x83.s.data 100).2)]) many23 h276 rfl rfl (by decide))) rfl rfl rfl ?_
          refine st_op (ev_build zero49 pl49 (parts := [(0, .agg #[.int .i64 x83.s.index, .int .i64 x83.s.term, .string ((cutB x83.s.conf 60, cutB x83.s.data 100).1), .string ((cutB x83.s.conf 60, cutB x83.s.data 100).2)])]) rfl (cs := [.int .i64 x83.s.index, .int .i64 x83.s.term, .string ((cutB x83.s.conf 60, cutB x83.s.data 100).1), .string ((cutB x83.s.conf 60, cutB x83.s.data 100).2), .slice none 0 0]) rfl) rfl rfl rfl ?_
          have h277 := Ext.blk hx266 (by omega) hB74
          have h278 := Fr.blk hx270 (by omega) (fun e => (by omega)) h277
          obtain ⟨H279, he280, H279n_, hB281, f282⟩ := mem_store (v := .agg #[.int .i64 x83.s.index, .int .i64 x83.s.term, .string ((cutB x83.s.conf 60, cutB x83.s.data 100).1), .string ((cutB x83.s.conf 60, cutB x83.s.data 100).2), .slice none 0 0]) (o := 0) (cs' := [.int .i64 x83.s.index, .int .i64 x83.s.term, .string ((cutB x83.s.conf 60, cutB x83.s.data 100).1), .string ((cutB x83.s.conf 60, cutB x83.s.data 100).2), .slice none 0 0]) 5 rfl rfl size49 h278 rfl rfl rfl
          refine st_op0 (he280 _ _ _ _ _ _ _ _ _ rfl rfl) rfl rfl ?_
          have hf283 : Fr (fun q => q = b49) H269 H279 := Fr.write H279n_ f282
          have H279n : H269.next ≤ H279.next := hf283.1
          try show aw _ _ _ _ _ _
          refine aw_seq ?_
          refine aw_reg ?_
          refine st_op (ev_move rfl) rfl rfl rfl ?_
          refine st_op (ev_not rfl) rfl rfl rfl ?_
          iterate 2 refine st_op (ev_move rfl) rfl rfl rfl ?_
          refine st_op (ev_load rfl (lvar_part (l := [.int .i64 x83.s.index, .int .i64 x83.s.term, .string ((cutB x83.s.conf 60, cutB x83.s.data 100).1), .string ((cutB x83.s.conf 60, cutB x83.s.data 100).2), .slice none 0 0]) many49 hB281 rfl rfl (by decide))) rfl rfl rfl ?_
          refine st_call rfl rfl rfl ent31 rfl rfl rfl ?_
          have h284 := Row.fr hm273 hf283 (fun q hq e => ⟨_, e ▸ h278, show (0 : Nat) ≠ 4 by decide⟩)
          have h285 := Fr.blk hf283 (by omega) (fun e => (by omega)) hB275
          obtain ⟨_, H287, hs286, hs286v, hx288⟩ := law21_Same_spec H279 x83.s.index ⟨by omega, by omega⟩ x83.s.term ((cutB x83.s.conf 60, cutB x83.s.data 100).1) (by omega) ((cutB x83.s.conf 60, cutB x83.s.data 100).2) A271 ([] : List Entry) c272 h284 hk274 (by first | omega | (simp only [List.length_append, List.length_cons, List.length_nil, List.length_map, List.length_set, List.length_replicate, Spec.bytesOf_length]; omega) | (simp; omega)) b39 (by omega) h285 (by assumption) none 0 .nil (Nat.le_refl 0)
          rw [hs286v] at hs286; clear hs286v
          refine ⟨_, H287, hs286, ?_⟩
          have H287n : H279.next ≤ H287.next := hx288.1
          refine st_op (ev_not rfl) rfl rfl rfl ?_
          refine st_op (ev_pickF rfl rfl) rfl rfl rfl ?_
          try show aw _ _ _ _ _ _
          refine aw_cond (t := false) rfl ?_
          try show aw _ _ _ _ _ _
          refine aw_skip ?_
          try show aw _ _ _ _ _ _
          refine aw_reg ?_
          refine st_op (ev_move rfl) rfl rfl rfl ?_
          refine st_op (ev_int64 (c := (i : Int) + 1) rfl rfl rfl (by omega) (by omega)) rfl rfl rfl ?_
          refine st_op (ev_assign rfl) rfl rfl rfl ?_
          try show aw _ _ _ _ _ _
          have h289 := Row.ext h284 hx288
          have h290 := Ext.blk hx288 (by omega) h285
          have h291 := Ext.blk hx288 (by omega) hB281
          refine aw_keep [2, 8, 9, 11] (l' := (.cons 2 (.slice opsA ops.length opsc) (.cons 8 (.pointer (some ⟨b39, 0, none⟩)) (.cons 9 (.pointer (some ⟨b49, 0, none⟩)) (.cons 11 (.int .i64 ((i : Int) + 1)) .nil))))) (by repeat (first | exact Up.done | refine Up.then ?_ | refine Up.inBlock ?_)) rfl ?_
          exact ih76 (i + 1, x83.s.index, x83.s.term, ((cutB x83.s.conf 60, cutB x83.s.data 100).1), ((cutB x83.s.conf 60, cutB x83.s.data 100).2), A271, c272, ([] : List Entry), none, 0, H287) ⟨(show (i + 1) ≤ ops.length from (by omega)), (show (i + 1) ≤ 30 from (by omega)), (show Spec.LogOk x83.s.index x83.s.term ([] : List Entry) from sto), (show ((cutB x83.s.conf 60, cutB x83.s.data 100).1).size ≤ 60 from (by omega)), (show x83.s.index + (([] : List Entry).length : Int) ≤ 1099511628000 + 12 * ((i + 1) : Int) from (by show _ + ((0 : Nat) : Int) ≤ _; omega)), (show ([] : List Entry).length ≤ 200 from (Nat.zero_le _)), (show 0 ≤ x83.s.index ∧ x83.s.index ≤ 2199023255552 from ⟨by omega, by omega⟩), (show Row H287 A271 c272 4 (([] : List Entry).map Entry.cells) from h289), (show ([] : List Entry).length ≤ c272 from hk274), (show H287.blk b39 = some ⟨[.int .i64 x83.s.index, .int .i64 x83.s.term, .string ((cutB x83.s.conf 60, cutB x83.s.data 100).1), .string ((cutB x83.s.conf 60, cutB x83.s.data 100).2), .slice A271 ([] : List Entry).length c272], 0, false, false⟩ from h290), (show Row H287 none 0 4 (([] : List Entry).map Entry.cells) from .nil), (show ([] : List Entry).length ≤ 0 from (Nat.le_refl 0)), (show H287.blk b49 = some ⟨[.int .i64 x83.s.index, .int .i64 x83.s.term, .string ((cutB x83.s.conf 60, cutB x83.s.data 100).1), .string ((cutB x83.s.conf 60, cutB x83.s.data 100).2), .slice none ([] : List Entry).length 0], 0, false, false⟩ from h291), (show Fr (fun q => q = b39 ∨ q = b49) H55 H287 from (Fr.trans (Fr.transG (Fr.transG (Fr.transG (Fr.transG (Fr.trans (Fr.trans (Fr.transG (Fr.trans (Fr.transG (Fr.refl (fun q => q = b39 ∨ q = b49) H55) hxl75 (fun q hq hE e => Or.elim e (fun e => Or.inl (e)) (fun e => Or.inr ((e))))) (hx92.fr fun _ => False) (fun q hq (e : False) => e.elim)) hf97 (fun q hq hE e => absurd hq (by omega))) (hx102.fr fun _ => False) (fun q hq (e : False) => e.elim)) (hx110.fr fun _ => False) (fun q hq (e : False) => e.elim)) hf118 (fun q hq hE e => absurd hq (by omega))) hf123 (fun q hq hE e => absurd hq (by omega))) hx270 (fun q hq hE e => Or.inl (e))) hf283 (fun q hq hE e => Or.inr ((e)))) (hx288.fr fun _ => False) (fun q hq (e : False) => e.elim)))⟩ (by simp only; omega)
       ·
        rw [Bool.not_eq_true] at hc252; refine aw_condF hc252 rfl ?_
        try show aw _ _ _ _ _ _
        have hc252 := ne_of_beq_false hc252
        refine aw_seq ?_
        refine aw_reg ?_
        refine st_op (ev_move rfl) rfl rfl rfl ?_
        refine st_op (ev_fieldAddr rfl fa53_3 (o' := 6) rfl) rfl rfl rfl ?_
        refine st_op (ev_load rfl (lvar_one one2 hB121 rfl)) rfl rfl rfl ?_
        refine st_call rfl rfl rfl ent18 rfl rfl rfl ?_
        have hx293 : Ext Hl62 H119 := (Ext.then (Ext.then (Ext.trans (Ext.trans hx99 hx102) hx110) hf118 (fun q hq e => by omega)) hf123 (fun q hq e => by omega))
        have h292 := Row.ext hr66 hx293
        have h294 := Ext.blk hx293 (by omega) hB69
        obtain ⟨_, H296, hs295, hs295v, hx297⟩ := rlog_Term_spec H119 x ⟨by omega, by omega⟩ tm cf (by omega) dt lA l lc h292 hr67 (by first | omega | (simp only [List.length_append, List.length_cons, List.length_nil, List.length_map, List.length_set, List.length_replicate, Spec.bytesOf_length]; omega) | (simp; omega)) b39 (by omega) h294 (by assumption) x83.i
        rw [hs295v] at hs295; clear hs295v
        refine ⟨_, H296, hs295, ?_⟩
        have H296n : H119.next ≤ H296.next := hx297.1
        refine st_op (ev_move rfl) rfl rfl rfl ?_
        iterate 2 refine st_op (ev_extract rfl rfl) rfl rfl rfl ?_
        iterate 2 refine st_op (ev_assign rfl) rfl rfl rfl ?_
        try show aw _ _ _ _ _ _
        refine aw_seq ?_
        refine aw_reg ?_
        have hx299 : Ext Hl62 H296 := (Ext.trans hx293 hx297)
        have h298 := Ext.blk hx299 (by omega) hB74
        refine st_op (ev_load rfl (lvar_part (l := [.int .i64 x, .int .i64 tm, .string cf, .string dt, .slice rA l.length rc]) many49 h298 rfl rfl (by decide))) rfl rfl rfl ?_
        refine st_op (ev_fieldAddr rfl fa53_3 (o' := 6) rfl) rfl rfl rfl ?_
        have h300 := Ext.blk hx297 (by omega) hB121
        refine st_op (ev_load rfl (lvar_one one2 h300 rfl)) rfl rfl rfl ?_
        refine st_call rfl rfl rfl ent26 rfl rfl rfl ?_
        have h301 := Row.ext hr70 hx299
        obtain ⟨_, H303, hs302, hs302v, hx304⟩ := ref21_Term_spec H296 x ⟨by omega, by omega⟩ tm cf (by omega) dt rA l rc h301 hr71 (by first | omega | (simp only [List.length_append, List.length_cons, List.length_nil, List.length_map, List.length_set, List.length_replicate, Spec.bytesOf_length]; omega) | (simp; omega)) (by assumption) x83.i
        rw [hs302v] at hs302; clear hs302v
        refine ⟨_, H303, hs302, ?_⟩
        have H303n : H296.next ≤ H303.next := hx304.1
        refine st_op (ev_move rfl) rfl rfl rfl ?_
        iterate 2 refine st_op (ev_extract rfl rfl) rfl rfl rfl ?_
        iterate 2 refine st_op (ev_assign rfl) rfl rfl rfl ?_
        try show aw _ _ _ _ _ _
        refine aw_marks (fun b => b < H303.next) [(false, false), (false, false), (false, false), (false, false), (false, false), (false, false), (false, false), (false, false), (false, false), (false, false), (false, false), (false, false), (false, false), (false, false), (false, true), (true, false), (false, false), (true, false), (false, false), (true, false), (false, false), (false, false), (false, false), (false, false), (false, false), (false, false), (false, false), (false, false), (false, false), (false, true), (true, false), (false, false), (true, false), (false, false), (true, false), (false, false), (false, false), (false, false), (false, false), (false, false), (false, false), (false, false), (false, false), (false, false), (false, true), (true, false), (false, false), (true, false), (false, false), (true, false), (false, false), (false, false), (false, false), (false, false)] mixed (by kernel_rfl) (by kernel_rfl) ?_
        iterate 2 refine sm_op (ev_move rfl) rfl rfl rfl ?_
        refine sm_op (ev_int rfl rfl rfl) rfl rfl rfl ?_
        refine sm_op (ev_move rfl) rfl rfl rfl ?_
        refine sm_bool 88 rfl (fun hb305 => ?_) (fun hb305 => ?_)
        ·
         have hb305 := eq_of_beq hb305
         iterate 2 refine sm_op (ev_move rfl) rfl rfl rfl ?_
         refine sm_op (ev_eqBoolS isbool4 rfl rfl) rfl rfl rfl ?_
         refine sm_op (ev_pickT rfl rfl) rfl rfl rfl ?_
         iterate 2 refine sm_op (ev_move rfl) rfl rfl rfl ?_
         refine sm_op (ev_fieldAddr rfl fa53_3 (o' := 6) rfl) rfl rfl rfl ?_
         have h306 := Ext.blk hx304 (by omega) h300
         refine sm_op (ev_load rfl (lvar_one one2 h306 rfl)) rfl rfl rfl ?_
         refine sm_op (ev_fieldAddr rfl fa53_4 (o' := 7) rfl) rfl rfl rfl ?_
         refine sm_op (ev_load rfl (lvar_one one2 h306 rfl)) rfl rfl rfl ?_
         refine sm_call rfl rfl rfl ent27 rfl rfl rfl ?_
         have hx308 : Ext H119 H303 := (Ext.trans hx297 hx304)
         have h307 := Row.ext h292 hx308
         have h309 := Ext.blk hx308 (by omega) h294
         obtain ⟨_, H311, hs310, hs310v, hx312⟩ := rlog_Fits_spec H303 x ⟨by omega, by omega⟩ tm cf (by omega) dt lA l lc h307 hr67 (by first | omega | (simp only [List.length_append, List.length_cons, List.length_nil, List.length_map, List.length_set, List.length_replicate, Spec.bytesOf_length]; omega) | (simp; omega)) b39 (by omega) h309 (by assumption) x83.i x83.t
         rw [hs310v] at hs310; clear hs310v
         refine ⟨_, H311, hs310, (fun _ b hb => hx312.2 b (by omega)), ?_⟩
         have H311n : H303.next ≤ H311.next := hx312.1
         have hx314 : Ext H296 H311 := (Ext.trans hx304 hx312)
         have h313 := Ext.blk hx314 (by omega) h298
         refine sm_read (ev_load rfl (lvar_part (l := [.int .i64 x, .int .i64 tm, .string cf, .string dt, .slice rA l.length rc]) many49 h313 rfl rfl (by decide))) rfl rfl rfl (fun b hb => by cases hb; dsimp only <;> omega) ?_
         refine sm_op (ev_fieldAddr rfl fa53_3 (o' := 6) rfl) rfl rfl rfl ?_
         have h315 := Ext.blk hx312 (by omega) h306
         refine sm_read (ev_load rfl (lvar_one one2 h315 rfl)) rfl rfl rfl (fun b hb => by cases hb; dsimp only <;> omega) ?_
         refine sm_op (ev_fieldAddr rfl fa53_4 (o' := 7) rfl) rfl rfl rfl ?_
         refine sm_read (ev_load rfl (lvar_one one2 h315 rfl)) rfl rfl rfl (fun b hb => by cases hb; dsimp only <;> omega) ?_
         refine sm_call rfl rfl rfl ent28 rfl rfl rfl ?_
         have h316 := Row.ext h301 hx314
         obtain ⟨_, H318, hs317, hs317v, hx319⟩ := ref21_Fits_spec H311 x ⟨by omega, by omega⟩ tm cf (by omega) dt rA l rc h316 hr71 (by first | omega | (simp only [List.length_append, List.length_cons, List.length_nil, List.length_map, List.length_set, List.length_replicate, Spec.bytesOf_length]; omega) | (simp; omega)) (by assumption) x83.i x83.t
         rw [hs317v] at hs317; clear hs317v
         refine ⟨_, H318, hs317, (fun _ b hb => hx319.2 b (by omega)), ?_⟩
         have H318n : H311.next ≤ H318.next := hx319.1
         refine sm_op (ev_eqBoolS isbool4 rfl rfl) rfl rfl rfl ?_
         refine sm_op (ev_pickT rfl rfl) rfl rfl rfl ?_
         iterate 2 refine sm_op (ev_move rfl) rfl rfl rfl ?_
         refine sm_op (ev_fieldAddr rfl fa53_3 (o' := 6) rfl) rfl rfl rfl ?_
         have h320 := Ext.blk hx319 (by omega) h315
         refine sm_op (ev_load rfl (lvar_one one2 h320 rfl)) rfl rfl rfl ?_
         refine sm_op (ev_fieldAddr rfl fa53_4 (o' := 7) rfl) rfl rfl rfl ?_
         refine sm_op (ev_load rfl (lvar_one one2 h320 rfl)) rfl rfl rfl ?_
         refine sm_call rfl rfl rfl ent19 rfl rfl rfl ?_
         have hx322 : Ext H303 H318 := (Ext.trans hx312 hx319)
         have h321 := Row.ext h307 hx322
         have h323 := Ext.blk hx322 (by omega) h309
         obtain ⟨_, H325, hs324, hs324v, hx326⟩ := rlog_Newer_spec H318 x ⟨by omega, by omega⟩ tm cf (by omega) dt lA l lc h321 hr67 (by first | omega | (simp only [List.length_append, List.length_cons, List.length_nil, List.length_map, List.length_set, List.length_replicate, Spec.bytesOf_length]; omega) | (simp; omega)) b39 (by omega) h323 (by assumption) x83.i x83.t
         rw [hs324v] at hs324; clear hs324v
         refine ⟨_, H325, hs324, (fun _ b hb => hx326.2 b (by omega)), ?_⟩
         have H325n : H318.next ≤ H325.next := hx326.1
         have hx328 : Ext H311 H325 := (Ext.trans hx319 hx326)
         have h327 := Ext.blk hx328 (by omega) h313
         refine sm_read (ev_load rfl (lvar_part (l := [.int .i64 x, .int .i64 tm, .string cf, .string dt, .slice rA l.length rc]) many49 h327 rfl rfl (by decide))) rfl rfl rfl (fun b hb => by cases hb; dsimp only <;> omega) ?_
         refine sm_op (ev_fieldAddr rfl fa53_3 (o' := 6) rfl) rfl rfl rfl ?_
         have h329 := Ext.blk hx326 (by omega) h320
         refine sm_read (ev_load rfl (lvar_one one2 h329 rfl)) rfl rfl rfl (fun b hb => by cases hb; dsimp only <;> omega) ?_
         refine sm_op (ev_fieldAddr rfl fa53_4 (o' := 7) rfl) rfl rfl rfl ?_
         refine sm_read (ev_load rfl (lvar_one one2 h329 rfl)) rfl rfl rfl (fun b hb => by cases hb; dsimp only <;> omega) ?_
         refine sm_call rfl rfl rfl ent29 rfl rfl rfl ?_
         have h330 := Row.ext h316 hx328
         obtain ⟨_, H332, hs331, hs331v, hx333⟩ := ref21_Newer_spec H325 x ⟨by omega, by omega⟩ tm cf (by omega) dt rA l rc h330 hr71 (by first | omega | (simp only [List.length_append, List.length_cons, List.length_nil, List.length_map, List.length_set, List.length_replicate, Spec.bytesOf_length]; omega) | (simp; omega)) (by assumption) x83.i x83.t
         rw [hs331v] at hs331; clear hs331v
         refine ⟨_, H332, hs331, (fun _ b hb => hx333.2 b (by omega)), ?_⟩
         have H332n : H325.next ≤ H332.next := hx333.1
         refine sm_op (ev_eqBoolS isbool4 rfl rfl) rfl rfl rfl ?_
         refine sm_op (ev_pickT rfl rfl) rfl rfl rfl ?_
         iterate 2 refine sm_op (ev_move rfl) rfl rfl rfl ?_
         refine sm_op (ev_fieldAddr rfl fa53_3 (o' := 6) rfl) rfl rfl rfl ?_
         have h334 := Ext.blk hx333 (by omega) h329
         refine sm_op (ev_load rfl (lvar_one one2 h334 rfl)) rfl rfl rfl ?_
         refine sm_op (ev_fieldAddr rfl fa53_5 (o' := 8) rfl) rfl rfl rfl ?_
         refine sm_op (ev_load rfl (lvar_one one3 h334 rfl)) rfl rfl rfl ?_
         refine sm_call rfl rfl rfl ent13 rfl rfl rfl ?_
         have hx336 : Ext H318 H332 := (Ext.trans hx326 hx333)
         have h335 := Row.ext h321 hx336
         have h337 := Ext.blk hx336 (by omega) h323
         obtain ⟨_, H339, hs338, A341, c342, hs338v, hm343, hq344, hx340⟩ := rlog_Get_spec H332 x ⟨by omega, by omega⟩ tm cf (by omega) dt lA l lc h335 hr67 (by first | omega | (simp only [List.length_append, List.length_cons, List.length_nil, List.length_map, List.length_set, List.length_replicate, Spec.bytesOf_length]; omega) | (simp; omega)) b39 (by omega) h337 (by assumption) x83.i x83.n
         rw [hs338v] at hs338; clear hs338v
         refine ⟨_, H339, hs338, (fun _ b hb => hx340.2 b (by omega)), ?_⟩
         have H339n : H332.next ≤ H339.next := hx340.1
         have hx346 : Ext H325 H339 := (Ext.trans hx333 hx340)
         have h345 := Ext.blk hx346 (by omega) h327
         refine sm_read (ev_load rfl (lvar_part (l := [.int .i64 x, .int .i64 tm, .string cf, .string dt, .slice rA l.length rc]) many49 h345 rfl rfl (by decide))) rfl rfl rfl (fun b hb => by cases hb; dsimp only <;> omega) ?_
         refine sm_op (ev_fieldAddr rfl fa53_3 (o' := 6) rfl) rfl rfl rfl ?_
         have h347 := Ext.blk hx340 (by omega) h334
         refine sm_read (ev_load rfl (lvar_one one2 h347 rfl)) rfl rfl rfl (fun b hb => by cases hb; dsimp only <;> omega) ?_
         refine sm_op (ev_fieldAddr rfl fa53_5 (o' := 8) rfl) rfl rfl rfl ?_
         refine sm_read (ev_load rfl (lvar_one one3 h347 rfl)) rfl rfl rfl (fun b hb => by cases hb; dsimp only <;> omega) ?_
         refine sm_call rfl rfl rfl ent30 rfl rfl rfl ?_
         have h348 := Row.ext h330 hx346
         obtain ⟨_, H350, hs349, A352, c353, hs349v, hm354, hq355, hx351⟩ := ref21_Get_spec H339 x ⟨by omega, by omega⟩ tm cf (by omega) dt rA l rc h348 hr71 (by first | omega | (simp only [List.length_append, List.length_cons, List.length_nil, List.length_map, List.length_set, List.length_replicate, Spec.bytesOf_length]; omega) | (simp; omega)) (by assumption) x83.i x83.n
         rw [hs349v] at hs349; clear hs349v
         refine ⟨_, H350, hs349, (fun _ b hb => hx351.2 b (by omega)), ?_⟩
         have H350n : H339.next ≤ H350.next := hx351.1
         refine sm_call rfl rfl rfl ent17 rfl rfl rfl ?_
         have h356 := My.ext hm343 hx351
         obtain ⟨_, H358, hs357, hs357v, hx359⟩ := ref17_EqEntries_spec H350 A341 (Spec.getF x l x83.i x83.n) c342 (My.row h356) (My.capF h356 (by first | omega | (simp only [List.length_append, List.length_cons, List.length_nil, List.length_map, List.length_set, List.length_replicate, Spec.bytesOf_length]; omega) | (simp; omega))) (by first | omega | (simp only [List.length_append, List.length_cons, List.length_nil, List.length_map, List.length_set, List.length_replicate, Spec.bytesOf_length]; omega) | (simp; omega)) A352 (Spec.getF x l x83.i x83.n) c353 (My.row hm354) (My.capF hm354 (by first | omega | (simp only [List.length_append, List.length_cons, List.length_nil, List.length_map, List.length_set, List.length_replicate, Spec.bytesOf_length]; omega) | (simp; omega))) (by first | omega | (simp only [List.length_append, List.length_cons, List.length_nil, List.length_map, List.length_set, List.length_replicate, Spec.bytesOf_length]; omega) | (simp; omega))
         rw [hs357v] at hs357; clear hs357v
         refine ⟨_, H358, hs357, (fun _ b hb => hx359.2 b (by omega)), ?_⟩
         have H358n : H350.next ≤ H358.next := hx359.1
         refine sm_op (ev_pickT rfl rfl) rfl rfl rfl ?_
         refine sm_op (ev_assign rfl) rfl rfl rfl ?_
         try show aw _ _ _ _ _ _
         refine aw_seq ?_
         refine aw_reg ?_
         refine st_op (ev_move rfl) rfl rfl rfl ?_
         refine st_op (ev_not rfl) rfl rfl rfl ?_
         refine st_op (ev_move rfl) rfl rfl rfl ?_
         refine st_bool 201 rfl (fun hb360 => ?_) (fun hb360 => ?_)
         ·
          exact absurd hb360 (by simp [Spec.eqEs_self])
         ·
          replace hb360 : (Spec.eqEs (Spec.getF x l x83.i x83.n) (Spec.getF x l x83.i x83.n)) = true := by rw [Bool.not_eq_false'] at hb360; exact hb360
          refine st_op (ev_move rfl) rfl rfl rfl ?_
          have hx362 : Ext H339 H358 := (Ext.trans hx351 hx359)
          have h361 := Ext.blk hx362 (by omega) h345
          refine st_op (ev_load rfl (lvar_part (l := [.int .i64 x, .int .i64 tm, .string cf, .string dt, .slice rA l.length rc]) many49 h361 rfl rfl (by decide))) rfl rfl rfl ?_
          refine st_call rfl rfl rfl ent31 rfl rfl rfl ?_
          have hx364 : Ext H332 H358 := (Ext.trans (Ext.trans hx340 hx351) hx359)
          have h363 := Row.ext h335 hx364
          have h365 := Ext.blk hx364 (by omega) h337
          have h366 := Row.ext h348 hx362
          obtain ⟨_, H368, hs367, hs367v, hx369⟩ := law21_Same_spec H358 x ⟨by omega, by omega⟩ tm cf (by omega) dt lA l lc h363 hr67 (by first | omega | (simp only [List.length_append, List.length_cons, List.length_nil, List.length_map, List.length_set, List.length_replicate, Spec.bytesOf_length]; omega) | (simp; omega)) b39 (by omega) h365 (by assumption) rA rc h366 hr71
          rw [hs367v] at hs367; clear hs367v
          refine ⟨_, H368, hs367, ?_⟩
          have H368n : H358.next ≤ H368.next := hx369.1
          refine st_op (ev_not rfl) rfl rfl rfl ?_
          refine st_op (ev_pickF rfl rfl) rfl rfl rfl ?_
          try show aw _ _ _ _ _ _
          refine aw_cond (t := false) rfl ?_
          try show aw _ _ _ _ _ _
          refine aw_skip ?_
          try show aw _ _ _ _ _ _
          refine aw_reg ?_
          refine st_op (ev_move rfl) rfl rfl rfl ?_
          refine st_op (ev_int64 (c := (i : Int) + 1) rfl rfl rfl (by omega) (by omega)) rfl rfl rfl ?_
          refine st_op (ev_assign rfl) rfl rfl rfl ?_
          try show aw _ _ _ _ _ _
          have h370 := Row.ext h363 hx369
          have h371 := Ext.blk hx369 (by omega) h365
          have h372 := Row.ext h366 hx369
          have h373 := Ext.blk hx369 (by omega) h361
          refine aw_keep [2, 8, 9, 11] (l' := (.cons 2 (.slice opsA ops.length opsc) (.cons 8 (.pointer (some ⟨b39, 0, none⟩)) (.cons 9 (.pointer (some ⟨b49, 0, none⟩)) (.cons 11 (.int .i64 ((i : Int) + 1)) .nil))))) (by repeat (first | exact Up.done | refine Up.then ?_ | refine Up.inBlock ?_)) rfl ?_
          exact ih76 (i + 1, x, tm, cf, dt, lA, lc, l, rA, rc, H368) ⟨(show (i + 1) ≤ ops.length from (by omega)), (show (i + 1) ≤ 30 from (by omega)), (show Spec.LogOk x tm l from hok), (show cf.size ≤ 60 from hcf), (show x + (l.length : Int) ≤ 1099511628000 + 12 * ((i + 1) : Int) from (by omega)), (show l.length ≤ 200 from hll), (show 0 ≤ x ∧ x ≤ 2199023255552 from ⟨by omega, by omega⟩), (show Row H368 lA lc 4 (l.map Entry.cells) from h370), (show l.length ≤ lc from hr67), (show H368.blk b39 = some ⟨[.int .i64 x, .int .i64 tm, .string cf, .string dt, .slice lA l.length lc], 0, false, false⟩ from h371), (show Row H368 rA rc 4 (l.map Entry.cells) from h372), (show l.length ≤ rc from hr71), (show H368.blk b49 = some ⟨[.int .i64 x, .int .i64 tm, .string cf, .string dt, .slice rA l.length rc], 0, false, false⟩ from h373), (show Fr (fun q => q = b39 ∨ q = b49) H55 H368 from (Fr.trans (Fr.trans (Fr.trans (Fr.trans (Fr.trans (Fr.trans (Fr.trans (Fr.trans (Fr.trans (Fr.trans (Fr.transG (Fr.transG (Fr.trans (Fr.trans (Fr.transG (Fr.trans (Fr.transG (Fr.refl (fun q => q = b39 ∨ q = b49) H55) hxl75 (fun q hq hE e => Or.elim e (fun e => Or.inl (e)) (fun e => Or.inr ((e))))) (hx92.fr fun _ => False) (fun q hq (e : False) => e.elim)) hf97 (fun q hq hE e => absurd hq (by omega))) (hx102.fr fun _ => False) (fun q hq (e : False) => e.elim)) (hx110.fr fun _ => False) (fun q hq (e : False) => e.elim)) hf118 (fun q hq hE e => absurd hq (by omega))) hf123 (fun q hq hE e => absurd hq (by omega))) (hx297.fr fun _ => False) (fun q hq (e : False) => e.elim)) (hx304.fr fun _ => False) (fun q hq (e : False) => e.elim)) (hx312.fr fun _ => False) (fun q hq (e : False) => e.elim)) (hx319.fr fun _ => False) (fun q hq (e : False) => e.elim)) (hx326.fr fun _ => False) (fun q hq (e : False) => e.elim)) (hx333.fr fun _ => False) (fun q hq (e : False) => e.elim)) (hx340.fr fun _ => False) (fun q hq (e : False) => e.elim)) (hx351.fr fun _ => False) (fun q hq (e : False) => e.elim)) (hx359.fr fun _ => False) (fun q hq (e : False) => e.elim)) (hx369.fr fun _ => False) (fun q hq (e : False) => e.elim)))⟩ (by simp only; omega)
        ·
         exact absurd hb305 (by simp)
    ·
     rw [Bool.not_eq_true] at hc78; refine aw_condF hc78 rfl ?_
     try show aw _ _ _ _ _ _
     have hc78 := of_decide_eq_false hc78
     refine aw_exit ?_
     try show aw _ _ _ _ _ _
     refine aw_seq ?_
     refine aw_reg ?_
     refine st_op (ev_move rfl) rfl rfl rfl ?_
     refine st_op (ev_load rfl (lvar_part (l := [.int .i64 x, .int .i64 tm, .string cf, .string dt, .slice rA l.length rc]) many49 hB74 rfl rfl (by decide))) rfl rfl rfl ?_
     refine st_call rfl rfl rfl ent31 rfl rfl rfl ?_
     obtain ⟨_, H375, hs374, hs374v, hx376⟩ := law21_Same_spec Hl62 x ⟨by omega, by omega⟩ tm cf (by omega) dt lA l lc hr66 hr67 (by first | omega | (simp only [List.length_append, List.length_cons, List.length_nil, List.length_map, List.length_set, List.length_replicate, Spec.bytesOf_length]; omega) | (simp; omega)) b39 (by omega) hB69 (by assumption) rA rc hr70 hr71
     rw [hs374v] at hs374; clear hs374v
     refine ⟨_, H375, hs374, ?_⟩
     have H375n : Hl62.next ≤ H375.next := hx376.1
     refine st_op (ev_assign rfl) rfl rfl rfl ?_
     try show aw _ _ _ _ _ _
     refine aw_ret ?_
     have hx377 : Ext H H375 := (Ext.trans (Ext.then (Ext.then (Ext.trans (Ext.trans (Ext.trans (Ext.then (Ext.trans hx16 hx19) hf30 (fun q hq e => by omega)) hx35) hx44) hx54) hf59 (fun q hq e => by omega)) hxl75 (fun q hq e => by rcases e with e | e <;> omega)) hx376)
     have hres : true = true := by rfl
     exact ⟨.bool true, rfl, by first | (rw [hres]; done) | rw [← hres], hx377⟩
   ·
    have hb77 := of_decide_eq_false hb77
    iterate 2 refine st_skip rfl rfl rfl ?_
    refine st_op (ev_pickF rfl rfl) rfl rfl rfl ?_
    try show aw _ _ _ _ _ _
    refine aw_cond (t := false) rfl ?_
    try show aw _ _ _ _ _ _
    refine aw_exit ?_
    try show aw _ _ _ _ _ _
    refine aw_seq ?_
    refine aw_reg ?_
    refine st_op (ev_move rfl) rfl rfl rfl ?_
    refine st_op (ev_load rfl (lvar_part (l := [.int .i64 x, .int .i64 tm, .string cf, .string dt, .slice rA l.length rc]) many49 hB74 rfl rfl (by decide))) rfl rfl rfl ?_
    refine st_call rfl rfl rfl ent31 rfl rfl rfl ?_
    obtain ⟨_, H379, hs378, hs378v, hx380⟩ := law21_Same_spec Hl62 x ⟨by omega, by omega⟩ tm cf (by omega) dt lA l lc hr66 hr67 (by first | omega | (simp only [List.length_append, List.length_cons, List.length_nil, List.length_map, List.length_set, List.length_replicate, Spec.bytesOf_length]; omega) | (simp; omega)) b39 (by omega) hB69 (by assumption) rA rc hr70 hr71
    rw [hs378v] at hs378; clear hs378v
    refine ⟨_, H379, hs378, ?_⟩
    have H379n : Hl62.next ≤ H379.next := hx380.1
    refine st_op (ev_assign rfl) rfl rfl rfl ?_
    try show aw _ _ _ _ _ _
    refine aw_ret ?_
    have hx381 : Ext H H379 := (Ext.trans (Ext.then (Ext.then (Ext.trans (Ext.trans (Ext.trans (Ext.then (Ext.trans hx16 hx19) hf30 (fun q hq e => by omega)) hx35) hx44) hx54) hf59 (fun q hq e => by omega)) hxl75 (fun q hq e => by rcases e with e | e <;> omega)) hx380)
    have hres : true = true := by rfl
    exact ⟨.bool true, rfl, by first | (rw [hres]; done) | rw [← hres], hx381⟩
 ·
  rw [Bool.not_eq_true] at hc32
  obtain ⟨_, H383, hs382, hs382v, hx384⟩ := rlog_New0_spec H26 s_index s_term ((cutB s_conf 60, cutB s_data 100).1) ((cutB s_conf 60, cutB s_data 100).2) A20 ((fs.take (12 : Int).toNat).map Entry.cut) c21 (My.row h31) (My.capF h31 (by first | omega | (simp only [List.length_append, List.length_cons, List.length_nil, List.length_map, List.length_set, List.length_replicate, Spec.bytesOf_length]; omega) | (simp; omega))) (by first | omega | (simp only [List.length_append, List.length_cons, List.length_nil, List.length_map, List.length_set, List.length_replicate, Spec.bytesOf_length]; omega) | (simp; omega)) (by assumption)
  rw [hs382v] at hs382; clear hs382v
  refine ⟨_, H383, hs382, ?_⟩
  have H383n : H26.next ≤ H383.next := hx384.1
  refine st_op (ev_assign rfl) rfl rfl rfl ?_
  try show aw _ _ _ _ _ _
  refine aw_seq ?_
  refine aw_reg ?_
  have h385 := Ext.blk hx384 (by omega) hB28
  refine st_op (ev_load rfl (lvar_part (l := [.int .i64 s_index, .int .i64 s_term, .string ((cutB s_conf 60, cutB s_data 100).1), .string ((cutB s_conf 60, cutB s_data 100).2)]) many23 h385 rfl rfl (by decide))) rfl rfl rfl ?_
  refine st_op (ev_move rfl) rfl rfl rfl ?_
  refine st_call rfl rfl rfl ent21 rfl rfl rfl ?_
  have h386 := My.ext h31 hx384
  obtain ⟨_, H388, hs387, hs387v, hx389⟩ := ref21_NewLog0_spec H383 s_index s_term ((cutB s_conf 60, cutB s_data 100).1) ((cutB s_conf 60, cutB s_data 100).2) A20 ((fs.take (12 : Int).toNat).map Entry.cut) c21 (My.row h386) (My.capF h386 (by first | omega | (simp only [List.length_append, List.length_cons, List.length_nil, List.length_map, List.length_set, List.length_replicate, Spec.bytesOf_length]; omega) | (simp; omega))) (by first | omega | (simp only [List.length_append, List.length_cons, List.length_nil, List.length_map, List.length_set, List.length_replicate, Spec.bytesOf_length]; omega) | (simp; omega)) (by assumption)
  rw [hs387v] at hs387; clear hs387v
  refine ⟨_, H388, hs387, ?_⟩
  have H388n : H383.next ≤ H388.next := hx389.1
  refine st_op (ev_move rfl) rfl rfl rfl ?_
  iterate 2 refine st_op (ev_extract rfl rfl) rfl rfl rfl ?_
  obtain ⟨b390, H391, he392, b390e, H391n_, hB394, f393⟩ := mem_alloc H388 zero49
  refine st_op (he392 _ _ _ _ _ _ _) rfl rfl rfl ?_
  have hx395 : Ext H388 H391 := Ext.new (by omega) H391n_ f393
  have H391n : H388.next ≤ H391.next := hx395.1
  obtain ⟨H396, he397, H396n_, hB398, f399⟩ := mem_store (v := .agg #[.int .i64 0, .int .i64 0, .string (⟨#[]⟩), .string (⟨#[]⟩), .slice none 0 0]) (o := 0) (cs' := [.int .i64 0, .int .i64 0, .string (⟨#[]⟩), .string (⟨#[]⟩), .slice none 0 0]) 5 rfl rfl size49 hB394 rfl rfl rfl
  refine st_op0 (he397 _ _ _ _ _ _ _ _ _ rfl rfl) rfl rfl ?_
  have hf400 : Fr (fun q => q = b390) H391 H396 := Fr.write H396n_ f399
  have H396n : H391.next ≤ H396.next := hf400.1
  refine st_op (ev_assign rfl) rfl rfl rfl ?_
  try show aw _ _ _ _ _ _
  iterate 2 refine aw_seq ?_
  refine aw_reg ?_
  refine st_op (ev_move rfl) rfl rfl rfl ?_
  refine st_op (ev_nilEq rfl rfl Try.underlying28) rfl rfl rfl ?_
  refine st_op (ev_move rfl) rfl rfl rfl ?_
  refine st_op (ev_eqBool isbool4 rfl rfl) rfl rfl rfl ?_
  try show aw _ _ _ _ _ _
  by_cases hc401 : (true == false) = true
  ·
   refine aw_condT hc401 rfl ?_
   try show aw _ _ _ _ _ _
   have hc401 := eq_of_beq hc401
   refine aw_seq ?_
   refine aw_reg ?_
   refine st_op (ev_assign rfl) rfl rfl rfl ?_
   try show aw _ _ _ _ _ _
   refine aw_ret ?_
   have hx402 : Ext H H396 := (Ext.then (Ext.trans (Ext.trans (Ext.trans (Ext.then (Ext.trans hx16 hx19) hf30 (fun q hq e => by omega)) hx384) hx389) hx395) hf400 (fun q hq e => by omega))
   have hres : true = false := by simp_all
   exact ⟨.bool false, rfl, by first | (rw [hres]; done) | rw [← hres], hx402⟩
  ·
   rw [Bool.not_eq_true] at hc401; refine aw_condF hc401 rfl ?_
   try show aw _ _ _ _ _ _
   have hc401 := ne_of_beq_false hc401
   refine aw_skip ?_
   try show aw _ _ _ _ _ _
   iterate 2 refine aw_seq ?_
   refine aw_reg ?_
   refine st_op (ev_move rfl) rfl rfl rfl ?_
   refine st_op (ev_not rfl) rfl rfl rfl ?_
   try show aw _ _ _ _ _ _
   refine aw_cond (t := true) rfl ?_
   try show aw _ _ _ _ _ _
   refine aw_seq ?_
   refine aw_reg ?_
   refine st_op (ev_assign rfl) rfl rfl rfl ?_
   try show aw _ _ _ _ _ _
   refine aw_ret ?_
   have hx403 : Ext H H396 := (Ext.then (Ext.trans (Ext.trans (Ext.trans (Ext.then (Ext.trans hx16 hx19) hf30 (fun q hq e => by omega)) hx384) hx389) hx395) hf400 (fun q hq e => by omega))
   have hres : true = true := by rfl
   exact ⟨.bool true, rfl, by first | (rw [hres]; done) | rw [← hres], hx403⟩

end Go.AM
