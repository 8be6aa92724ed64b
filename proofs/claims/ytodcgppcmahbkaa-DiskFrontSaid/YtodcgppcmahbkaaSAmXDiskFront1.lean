/- Part of a machine of its own for this claim: the program's code over memory without draws. -/
import Derived.Test.YtodcgppcmahbkaaSAmXDiskB1
set_option linter.unusedVariables false
set_option linter.unusedSimpArgs false
set_option linter.unnecessarySimpa false
set_option linter.unusedVariables false
set_option linter.unusedSimpArgs false
set_option linter.unnecessarySimpa false
namespace Go.AM
open Go Go.Proofs
theorem ent9 : enters Try.prog 9 = true := by kernel_rfl
theorem law_DiskFront_spec (H : Heap) (aA : Option Addr) (a : List Int) (ac : Nat) (ha : Row H aA ac 1 (a.map u8c)) (ca : a.length ≤ ac) (la : a.length ≤ 140737488355328) (aa : aA = none → ac = 0) (ba : Spec.Bytes a) (bA : Option Addr) (b : List Int) (bc : Nat) (hb : Row H bA bc 1 (b.map u8c)) (cb : b.length ≤ bc) (lb : b.length ≤ 140737488355328) (ab : bA = none → bc = 0) (bb : Spec.Bytes b) (n : Int) (hn : -9223372036854775808 ≤ n ∧ n ≤ 9223372036854775807) : ∃ v H', Spec Try.prog 3 [.slice aA a.length ac, .slice bA b.length bc, .int .i64 n] H v H' ∧ ((v = .bool true) ∧ (Ext H H')) := by
 refine spec_go3 E0_ok 62 (f := 3) Try.func3 rfl rfl rfl ?_
 refine aw_seq ?_
 refine aw_reg ?_
 refine st_op (ev_assign rfl) rfl rfl rfl ?_
 try show aw _ _ _ _ _ _
 refine aw_seq ?_
 refine aw_reg ?_
 refine st_call rfl rfl rfl ent9 rfl rfl rfl ?_
 obtain ⟨_, H2, hs1, hs1v, hx3⟩ := law17_begun_spec H 
 rw [hs1v] at hs1; clear hs1v
 refine ⟨_, H2, hs1, ?_⟩
 have H2n : H.next ≤ H2.next := hx3.1
 refine st_op (ev_assign rfl) rfl rfl rfl ?_
 try show aw _ _ _ _ _ _
 iterate 2 refine aw_seq ?_
 refine aw_reg ?_
 refine st_op (ev_move rfl) rfl rfl rfl ?_
 refine st_op (ev_not rfl) rfl rfl rfl ?_
 try show aw _ _ _ _ _ _
 refine aw_cond (t := false) rfl ?_
 try show aw _ _ _ _ _ _
 refine aw_skip ?_
 try show aw _ _ _ _ _ _
 iterate 2 refine aw_seq ?_
 refine aw_reg ?_
 refine st_op (ev_move rfl) rfl rfl rfl ?_
 refine st_op (ev_lenSl rfl Try.underlying22) rfl rfl rfl ?_
 refine st_op (ev_int rfl rfl rfl) rfl rfl rfl ?_
 refine st_op (ev_move rfl) rfl rfl rfl ?_
 refine st_bool 18 rfl (fun hb4 => ?_) (fun hb4 => ?_)
 ·
  have hb4 := of_decide_eq_true hb4
  iterate 3 refine st_skip rfl rfl rfl ?_
  refine st_op (ev_pickT rfl rfl) rfl rfl rfl ?_
  refine st_op (ev_move rfl) rfl rfl rfl ?_
  iterate 2 refine st_skip rfl rfl rfl ?_
  refine st_op (ev_pickT rfl rfl) rfl rfl rfl ?_
  try show aw _ _ _ _ _ _
  refine aw_cond (t := true) rfl ?_
  try show aw _ _ _ _ _ _
  refine aw_seq ?_
  refine aw_reg ?_
  refine st_op (ev_assign rfl) rfl rfl rfl ?_
  try show aw _ _ _ _ _ _
  refine aw_ret ?_
  have hres : true = true := by rfl
  exact ⟨.bool true, rfl, by first | (rw [hres]; done) | rw [← hres], hx3⟩
 ·
  have hb4 := of_decide_eq_false hb4
  refine st_op (ev_move rfl) rfl rfl rfl ?_
  refine st_op (ev_lenSl rfl Try.underlying22) rfl rfl rfl ?_
  refine st_op (ev_int rfl rfl rfl) rfl rfl rfl ?_
  refine st_op (ev_pickF rfl rfl) rfl rfl rfl ?_
  refine st_op (ev_move rfl) rfl rfl rfl ?_
  refine st_bool 23 rfl (fun hb5 => ?_) (fun hb5 => ?_)
  ·
   have hb5 := of_decide_eq_true hb5
   iterate 2 refine st_skip rfl rfl rfl ?_
   refine st_op (ev_pickT rfl rfl) rfl rfl rfl ?_
   try show aw _ _ _ _ _ _
   refine aw_cond (t := true) rfl ?_
   try show aw _ _ _ _ _ _
   refine aw_seq ?_
   refine aw_reg ?_
   refine st_op (ev_assign rfl) rfl rfl rfl ?_
   try show aw _ _ _ _ _ _
   refine aw_ret ?_
   have hres : true = true := by rfl
   exact ⟨.bool true, rfl, by first | (rw [hres]; done) | rw [← hres], hx3⟩
  ·
   have hb5 := of_decide_eq_false hb5
   refine st_op (ev_move rfl) rfl rfl rfl ?_
   refine st_op (ev_int rfl rfl rfl) rfl rfl rfl ?_
   refine st_op (ev_pickF rfl rfl) rfl rfl rfl ?_
   try show aw _ _ _ _ _ _
   by_cases hc6 : (decide (n < 0)) = true
   ·
    refine aw_condT hc6 rfl ?_
    try show aw _ _ _ _ _ _
    have hc6 := of_decide_eq_true hc6
    refine aw_seq ?_
    refine aw_reg ?_
    refine st_op (ev_assign rfl) rfl rfl rfl ?_
    try show aw _ _ _ _ _ _
    refine aw_ret ?_
    have hres : true = true := by rfl
    exact ⟨.bool true, rfl, by first | (rw [hres]; done) | rw [← hres], hx3⟩
   ·
    rw [Bool.not_eq_true] at hc6; refine aw_condF hc6 rfl ?_
    try show aw _ _ _ _ _ _
    have hc6 := of_decide_eq_false hc6
    refine aw_skip ?_
    try show aw _ _ _ _ _ _
    refine aw_seq ?_
    refine aw_reg ?_
    refine st_call rfl rfl rfl ent10 rfl rfl rfl ?_
    obtain ⟨_, H7, hs8, d9, D10, rfl, ⟨mb14, ps15, hr16⟩, hD12, hx13⟩ := disk_New_spec H2
    refine ⟨_, H7, hs8, ?_⟩
    have H7n : H2.next ≤ H7.next := hx13.1
    have bd9 := hD12 _ hr16.dp; have bmb14 := hD12 _ hr16.dm
    refine st_op (ev_assign rfl) rfl rfl rfl ?_
    try show aw _ _ _ _ _ _
    refine aw_seq ?_
    refine aw_reg ?_
    iterate 2 refine st_op (ev_move rfl) rfl rfl rfl ?_
    refine st_call rfl rfl rfl ent11 rfl rfl rfl ?_
    have hx22 : Ext H H7 := (Ext.trans hx3 hx13)
    have h21 := Row.ext ha hx22
    have hS17 := disk_Append_spec H7 d9 D10 ([] : Files) 0 ⟨_, _, hr16⟩ (by omega) (⟨#[102]⟩) (by first | omega | decide | assumption) aA a ac h21 ca (by omega) (by assumption)
    rw [Spec.one_app0 (F := ⟨#[102]⟩) (a := a) (by decide) (by first | omega | (simp only [List.length_append, List.length_take, Spec.bytesOf_length]; omega) | (simp; omega) | decide)] at hS17; try dsimp only at hS17
    obtain ⟨_, H18, hs19, rfl, D23, ⟨mb24, ps25, hr26⟩, hb27, hx20⟩ := hS17
    refine ⟨_, H18, hs19, ?_⟩
    have H18n : H7.next ≤ H18.next := hx20.1
    have hD28 := fun q e => (hb27 q e).imp (hD12 q) id
    try show aw _ _ _ _ _ _
    refine aw_seq ?_
    refine aw_reg ?_
    refine st_op (ev_move rfl) rfl rfl rfl ?_
    refine st_call rfl rfl rfl ent12 rfl rfl rfl ?_
    have hS29 := disk_Sync_spec H18 d9 D23 ([(⟨#[102]⟩, ⟨a, 0, false⟩)] : Files) (0 + 1) ⟨_, _, hr26⟩ (by omega) (⟨#[102]⟩) (by first | omega | decide | assumption)
    rw [Spec.one_sync (F := ⟨#[102]⟩) (a := a) (s := 0) (t := false)] at hS29; try dsimp only at hS29
    obtain ⟨_, H30, hs31, rfl, D33, ⟨mb34, ps35, hr36⟩, hb37, hx32⟩ := hS29
    refine ⟨_, H30, hs31, ?_⟩
    have H30n : H18.next ≤ H30.next := hx32.1
    have hD38 := fun q e => (hb37 q e).imp (hD28 q) id
    try show aw _ _ _ _ _ _
    refine aw_seq ?_
    refine aw_reg ?_
    iterate 2 refine st_op (ev_move rfl) rfl rfl rfl ?_
    refine st_call rfl rfl rfl ent11 rfl rfl rfl ?_
    have hx44 : Ext H H30 := (Ext.then (Ext.then hx22 hx20 (fun q hq e => by (first | omega | (replace e := hD12 _ e.1; omega)))) hx32 (fun q hq e => by (first | omega | (replace e := hD28 _ e.1; omega))))
    have h43 := Row.ext hb hx44
    have hS39 := disk_Append_spec H30 d9 D33 ([(⟨#[102]⟩, ⟨a, (a.length : Int), true⟩)] : Files) ((0 + 1) + 1) ⟨_, _, hr36⟩ (by omega) (⟨#[102]⟩) (by first | omega | decide | assumption) bA b bc h43 cb (by omega) (by assumption)
    rw [Spec.one_app (F := ⟨#[102]⟩) (a := a) (s := (a.length : Int)) (t := true) (b := b) (by decide) (by first | omega | (simp only [List.length_append, List.length_take, Spec.bytesOf_length]; omega) | (simp; omega) | decide)] at hS39; try dsimp only at hS39
    obtain ⟨_, H40, hs41, rfl, D45, ⟨mb46, ps47, hr48⟩, hb49, hx42⟩ := hS39
    refine ⟨_, H40, hs41, ?_⟩
    have H40n : H30.next ≤ H40.next := hx42.1
    have hD50 := fun q e => (hb49 q e).imp (hD38 q) id
    try show aw _ _ _ _ _ _
    refine aw_seq ?_
    refine aw_reg ?_
    iterate 2 refine st_op (ev_move rfl) rfl rfl rfl ?_
    refine st_call rfl rfl rfl ent13 rfl rfl rfl ?_
    have hS51 := disk_CrashR_spec H40 d9 mb46 D45 ([(⟨#[102]⟩, ⟨(a ++ b), (a.length : Int), true⟩)] : Files) ps47 (((0 + 1) + 1) + 1) hr48 (by omega) (by simp) n
    rw [Spec.one_crash (F := ⟨#[102]⟩) (a := (a ++ b)) (s := (a.length : Int)) (t := true) (n := n) (.inr rfl)] at hS51; try dsimp only at hS51
    obtain ⟨_, H52, hs53, p55, D56, rfl, ⟨mb57, ps58, hr59⟩, hD60, hx54⟩ := hS51
    refine ⟨_, H52, hs53, ?_⟩
    have H52n : H40.next ≤ H52.next := hx54.1
    refine st_call rfl rfl rfl ent14 rfl rfl rfl ?_
    have hS61 := disk_Read_spec H52 p55 D56 ([(⟨#[102]⟩, ⟨((a ++ b).take (Spec.keepN ⟨(a ++ b), (a.length : Int), true⟩ n).toNat), (Spec.keepN ⟨(a ++ b), (a.length : Int), true⟩ n), true⟩)] : Files) 0 ⟨_, _, hr59⟩ (by omega) (⟨#[102]⟩) (by first | omega | decide | assumption)
    rw [Spec.one_read (F := ⟨#[102]⟩) (a := ((a ++ b).take (Spec.keepN ⟨(a ++ b), (a.length : Int), true⟩ n).toNat)) (s := (Spec.keepN ⟨(a ++ b), (a.length : Int), true⟩ n)) (t := true)] at hS61; try dsimp only at hS61
    obtain ⟨_, H62, hs63, A65, c66, rfl, hm67, hb68, hl69, hx64⟩ := hS61
    refine ⟨_, H62, hs63, ?_⟩
    have H62n : H52.next ≤ H62.next := hx64.1
    refine st_op (ev_move rfl) rfl rfl rfl ?_
    iterate 2 refine st_op (ev_extract rfl rfl) rfl rfl rfl ?_
    iterate 2 refine st_op (ev_assign rfl) rfl rfl rfl ?_
    try show aw _ _ _ _ _ _
    refine aw_seq ?_
    refine aw_marks (fun b => b < H62.next) [(false, false), (false, false), (false, false), (false, false), (false, false), (false, false), (false, false), (false, false), (false, false), (false, false), (false, false), (false, false)] mixed (by kernel_rfl) (by kernel_rfl) ?_
    refine sm_op (ev_move rfl) rfl rfl rfl ?_
    have hx71 : Ext H H62 := (Ext.trans (Ext.trans (Ext.then hx44 hx42 (fun q hq e => by (first | omega | (replace e := hD38 _ e.1; omega)))) hx54) hx64)
    have h70 := Row.ext ha hx71
    refine sm_op (ev_strOf (l := a) (A := aA) (c := ac) slu8_22 isstr_9 rfl aa h70) rfl rfl rfl ?_
    iterate 3 refine sm_op (ev_move rfl) rfl rfl rfl ?_
    refine sm_op (ev_lenSl rfl Try.underlying22) rfl rfl rfl ?_
    refine sm_op (ev_int64 (c := (b.length : Int) + 1) rfl rfl rfl (by omega) (by omega)) rfl rfl rfl ?_
    refine sm_op (ev_rem (b := (b.length : Int) + 1) rfl rfl (by omega)) rfl rfl rfl ?_
    generalize hr73 : (Int.tmod n ((b.length : Int) + 1)) = rm72
    have hr73b := Spec.rem_in (by omega) (by omega) hr73
    have h82 := Row.ext hb hx71
    obtain ⟨A74, c75, L76, hL77, hl78, hs79, hr80, hc81⟩ := sliceA_typed u8c el22 (by decide) h82 cb (lo := none) (hi := some (.int .i64 rm72)) (l := 0) (h := (rm72).toNat) (by rw [Option.isSome_some, if_pos rfl]; exact bound_int (by first | omega | (simp only [List.length_append, List.length_cons, List.length_nil, List.length_map, List.length_set, List.length_replicate, Spec.bytesOf_length]; omega) | (simp; omega)) (by first | omega | (simp only [List.length_append, List.length_cons, List.length_nil, List.length_map, List.length_set, List.length_replicate, Spec.bytesOf_length]; omega) | (simp; omega)) (by first | rfl | omega)) rfl (by first | omega | (simp only [List.length_append, List.length_cons, List.length_nil, List.length_map, List.length_set, List.length_replicate, Spec.bytesOf_length]; omega) | (simp; omega)) (by first | omega | (simp only [List.length_append, List.length_cons, List.length_nil, List.length_map, List.length_set, List.length_replicate, Spec.bytesOf_length]; omega) | (simp; omega))
    refine sm_op (ev_slice rfl rfl rfl rfl hs79) rfl rfl rfl ?_
    have hL77b : Spec.Bytes L76 := by rw [hL77]; exact Spec.Bytes.take (Spec.Bytes.drop (by assumption) _) _
    refine sm_op (ev_strOf (l := L76) (A := A74) (c := c75) slu8_22 isstr_9 rfl (fun h => sliceA_none el22 (h ▸ hs79)) hr80) rfl rfl rfl ?_
    have hz83 : (strOfNums a).size = _ := strOfNums_size _
    have hz84 : (strOfNums L76).size = _ := strOfNums_size _
    refine sm_op (ev_str rfl rfl (str_add (by omega))) rfl rfl rfl ?_
    refine sm_op (ev_assign rfl) rfl rfl rfl ?_
    try show aw _ _ _ _ _ _
    refine aw_seq ?_
    refine aw_reg ?_
    refine st_op (ev_move rfl) rfl rfl rfl ?_
    refine st_op (ev_int rfl rfl rfl) rfl rfl rfl ?_
    iterate 2 refine st_op (ev_move rfl) rfl rfl rfl ?_
    refine st_op (ev_strOf (l := ((a ++ b).take (Spec.keepN ⟨(a ++ b), (a.length : Int), true⟩ n).toNat)) (A := A65) (c := c66) slu8_22 isstr_9 rfl (My.anil hm67) (My.row hm67)) rfl rfl rfl ?_
    refine st_op (ev_move rfl) rfl rfl rfl ?_
    refine st_op (ev_str rfl rfl rfl) rfl rfl rfl ?_
    refine st_op (ev_pickT rfl rfl) rfl rfl rfl ?_
    refine st_op (ev_assign rfl) rfl rfl rfl ?_
    try show aw _ _ _ _ _ _
    refine aw_ret ?_
    have hres : true = (((strOfNums ((a ++ b).take (Spec.keepN ⟨(a ++ b), (a.length : Int), true⟩ n).toNat))).toList == (((strOfNums a) ++ (strOfNums L76))).toList) := by symm; rw [Spec.front_keep (by omega) hr73, Spec.front_take hr73b.1, hL77, Spec.strOfNums_append]; simp
    exact ⟨.bool (((strOfNums ((a ++ b).take (Spec.keepN ⟨(a ++ b), (a.length : Int), true⟩ n).toNat))).toList == (((strOfNums a) ++ (strOfNums L76))).toList), rfl, by first | (rw [hres]; done) | rw [← hres], hx71⟩

end Go.AM
