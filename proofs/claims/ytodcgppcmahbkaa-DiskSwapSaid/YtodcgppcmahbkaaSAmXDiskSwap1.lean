/- Part of a machine of its own for this claim: the program's code over memory without draws. -/
import Derived.Test.YtodcgppcmahbkaaSAmXDiskB1
set_option linter.unusedVariables false
set_option linter.unusedSimpArgs false
set_option linter.unnecessarySimpa false
set_option linter.unusedVariables false
set_option linter.unusedSimpArgs false
set_option linter.unnecessarySimpa false
namespace Go.AM
open Go Go.Proofs
theorem ent9 : enters Try.prog 9 = true := by kernel_rfl

theorem law_DiskSwap_spec (H : Heap) (aA : Option Addr) (a : List Int) (ac : Nat) (ha : Row H aA ac 1 (a.map u8c)) (ca : a.length ≤ ac) (la : a.length ≤ 140737488355328) (aa : aA = none → ac = 0) (ba : Spec.Bytes a) (bA : Option Addr) (b : List Int) (bc : Nat) (hb : Row H bA bc 1 (b.map u8c)) (cb : b.length ≤ bc) (lb : b.length ≤ 140737488355328) (ab : bA = none → bc = 0) (bb : Spec.Bytes b) (n : Int) (hn : -9223372036854775808 ≤ n ∧ n ≤ 9223372036854775807) : ∃ v H', Spec Try.prog 8 [.slice aA a.length ac, .slice bA b.length bc, .int .i64 n] H v H' ∧ ((v = .bool true) ∧ (Ext H H')) := by
 refine spec_go3 E0_ok 51 (f := 8) Try.func8 rfl rfl rfl ?_
 refine aw_seq ?_
 refine aw_reg ?_
 refine st_op (ev_assign rfl) rfl rfl rfl ?_
 try show aw _ _ _ _ _ _
 refine aw_seq ?_
 refine aw_reg ?_
 refine st_call rfl rfl rfl ent9 rfl rfl rfl ?_
 obtain ⟨_, H2, hs1, hs1v, hx3⟩ := law17_begun_spec H 
 rw [hs1v] at hs1; clear hs1v
 refine ⟨_, H2, hs1, ?_⟩
 have H2n : H.next ≤ H2.next := hx3.1
 refine st_op (ev_assign rfl) rfl rfl rfl ?_
 try show aw _ _ _ _ _ _
 iterate 2 refine aw_seq ?_
 refine aw_reg ?_
 refine st_op (ev_move rfl) rfl rfl rfl ?_
 refine st_op (ev_not rfl) rfl rfl rfl ?_
 try show aw _ _ _ _ _ _
 refine aw_cond (t := false) rfl ?_
 try show aw _ _ _ _ _ _
 refine aw_skip ?_
 try show aw _ _ _ _ _ _
 iterate 2 refine aw_seq ?_
 refine aw_reg ?_
 refine st_op (ev_move rfl) rfl rfl rfl ?_
 refine st_op (ev_lenSl rfl Try.underlying22) rfl rfl rfl ?_
 refine st_op (ev_int rfl rfl rfl) rfl rfl rfl ?_
 refine st_op (ev_move rfl) rfl rfl rfl ?_
 refine st_bool 17 rfl (fun hb4 => ?_) (fun hb4 => ?_)
 ·
  have hb4 := of_decide_eq_true hb4
  iterate 3 refine st_skip rfl rfl rfl ?_
  refine st_op (ev_pickT rfl rfl) rfl rfl rfl ?_
  try show aw _ _ _ _ _ _
  refine aw_cond (t := true) rfl ?_
  try show aw _ _ _ _ _ _
  refine aw_seq ?_
  refine aw_reg ?_
  refine st_op (ev_assign rfl) rfl rfl rfl ?_
  try show aw _ _ _ _ _ _
  refine aw_ret ?_
  have hres : true = true := by rfl
  exact ⟨.bool true, rfl, by first | (rw [hres]; done) | rw [← hres], hx3⟩
 ·
  have hb4 := of_decide_eq_false hb4
  refine st_op (ev_move rfl) rfl rfl rfl ?_
  refine st_op (ev_lenSl rfl Try.underlying22) rfl rfl rfl ?_
  refine st_op (ev_int rfl rfl rfl) rfl rfl rfl ?_
  refine st_op (ev_pickF rfl rfl) rfl rfl rfl ?_
  try show aw _ _ _ _ _ _
  by_cases hc5 : (decide ((b.length : Int) > 60)) = true
  ·
   refine aw_condT hc5 rfl ?_
   try show aw _ _ _ _ _ _
   have hc5 := of_decide_eq_true hc5
   refine aw_seq ?_
   refine aw_reg ?_
   refine st_op (ev_assign rfl) rfl rfl rfl ?_
   try show aw _ _ _ _ _ _
   refine aw_ret ?_
   have hres : true = true := by rfl
   exact ⟨.bool true, rfl, by first | (rw [hres]; done) | rw [← hres], hx3⟩
  ·
   rw [Bool.not_eq_true] at hc5; refine aw_condF hc5 rfl ?_
   try show aw _ _ _ _ _ _
   have hc5 := of_decide_eq_false hc5
   refine aw_skip ?_
   try show aw _ _ _ _ _ _
   refine aw_seq ?_
   refine aw_reg ?_
   refine st_call rfl rfl rfl ent10 rfl rfl rfl ?_
   obtain ⟨_, H6, hs7, d8, D9, rfl, ⟨mb13, ps14, hr15⟩, hD11, hx12⟩ := disk_New_spec H2
   refine ⟨_, H6, hs7, ?_⟩
   have H6n : H2.next ≤ H6.next := hx12.1
   have bd8 := hD11 _ hr15.dp; have bmb13 := hD11 _ hr15.dm
   refine st_op (ev_assign rfl) rfl rfl rfl ?_
   try show aw _ _ _ _ _ _
   refine aw_seq ?_
   refine aw_reg ?_
   iterate 2 refine st_op (ev_move rfl) rfl rfl rfl ?_
   refine st_call rfl rfl rfl ent11 rfl rfl rfl ?_
   have hx21 : Ext H H6 := (Ext.trans hx3 hx12)
   have h20 := Row.ext ha hx21
   have hS16 := disk_Append_spec H6 d8 D9 ([] : Files) 0 ⟨_, _, hr15⟩ (by omega) (⟨#[102]⟩) (by first | omega | decide | assumption) aA a ac h20 ca (by omega) (by assumption)
   rw [Spec.one_app0 (F := ⟨#[102]⟩) (a := a) (by decide) (by first | omega | (simp only [List.length_append, List.length_take, Spec.bytesOf_length]; omega) | (simp; omega) | decide)] at hS16; try dsimp only at hS16
   obtain ⟨_, H17, hs18, rfl, D22, ⟨mb23, ps24, hr25⟩, hb26, hx19⟩ := hS16
   refine ⟨_, H17, hs18, ?_⟩
   have H17n : H6.next ≤ H17.next := hx19.1
   have hD27 := fun q e => (hb26 q e).imp (hD11 q) id
   try show aw _ _ _ _ _ _
   iterate 2 refine aw_seq ?_
   refine aw_reg ?_
   iterate 2 refine st_op (ev_move rfl) rfl rfl rfl ?_
   refine st_call rfl rfl rfl ent19 rfl rfl rfl ?_
   have hx33 : Ext H H17 := (Ext.then hx21 hx19 (fun q hq e => by (first | omega | (replace e := hD11 _ e.1; omega))))
   have h32 := Row.ext hb hx33
   have hS28 := disk_Swap_spec H17 d8 D22 ([(⟨#[102]⟩, ⟨a, 0, false⟩)] : Files) (0 + 1) ⟨_, _, hr25⟩ (by omega) (⟨#[102]⟩) (by first | omega | decide | assumption) bA b bc h32 cb (by omega) (by assumption)
   rw [Spec.one_swap (F := ⟨#[102]⟩) (a := a) (s := 0) (t := false) (b := b) (by decide) (by first | omega | (simp only [List.length_append, List.length_take, Spec.bytesOf_length]; omega) | (simp; omega) | decide)] at hS28; try dsimp only at hS28
   obtain ⟨_, H29, hs30, rfl, D34, ⟨mb35, ps36, hr37⟩, hb38, hx31⟩ := hS28
   refine ⟨_, H29, hs30, ?_⟩
   have H29n : H17.next ≤ H29.next := hx31.1
   have hD39 := fun q e => (hb38 q e).imp (hD27 q) id
   refine st_op (ev_int rfl rfl rfl) rfl rfl rfl ?_
   iterate 2 refine st_op (ev_move rfl) rfl rfl rfl ?_
   refine st_call rfl rfl rfl ent24 rfl rfl rfl ?_
   have hS40 := disk_Loose_spec H29 d8 D34 ([(⟨#[102]⟩, ⟨b, (b.length : Int), true⟩)] : Files) ((0 + 1) + 1) ⟨_, _, hr37⟩ (by omega) (⟨#[102]⟩) (by first | omega | decide | assumption)
   rw [Spec.one_loose_whole (F := ⟨#[102]⟩) (a := b) (t := true)] at hS40; try dsimp only at hS40
   obtain ⟨_, H41, hs42, rfl, hq44, hq45, hx43⟩ := hS40
   refine ⟨_, H41, hs42, ?_⟩
   have H41n : H29.next ≤ H41.next := hx43.1
   refine st_op (ev_int rfl rfl rfl) rfl rfl rfl ?_
   refine st_op (ev_pickF rfl rfl) rfl rfl rfl ?_
   try show aw _ _ _ _ _ _
   refine aw_cond (t := false) rfl ?_
   try show aw _ _ _ _ _ _
   refine aw_skip ?_
   try show aw _ _ _ _ _ _
   refine aw_seq ?_
   refine aw_reg ?_
   iterate 2 refine st_op (ev_move rfl) rfl rfl rfl ?_
   refine st_call rfl rfl rfl ent13 rfl rfl rfl ?_
   have h46 := DiskR.ext hr37 hx43
   have hS47 := disk_CrashR_spec H41 d8 mb35 D34 ([(⟨#[102]⟩, ⟨b, (b.length : Int), true⟩)] : Files) ps36 ((0 + 1) + 1) h46 (by omega) (by simp) n
   rw [Spec.one_crash_whole (F := ⟨#[102]⟩) (a := b) (n := n)] at hS47; try dsimp only at hS47
   obtain ⟨_, H48, hs49, p51, D52, rfl, ⟨mb53, ps54, hr55⟩, hD56, hx50⟩ := hS47
   refine ⟨_, H48, hs49, ?_⟩
   have H48n : H41.next ≤ H48.next := hx50.1
   refine st_call rfl rfl rfl ent14 rfl rfl rfl ?_
   have hS57 := disk_Read_spec H48 p51 D52 ([(⟨#[102]⟩, ⟨b, (b.length : Int), true⟩)] : Files) 0 ⟨_, _, hr55⟩ (by omega) (⟨#[102]⟩) (by first | omega | decide | assumption)
   rw [Spec.one_read (F := ⟨#[102]⟩) (a := b) (s := (b.length : Int)) (t := true)] at hS57; try dsimp only at hS57
   obtain ⟨_, H58, hs59, A61, c62, rfl, hm63, hb64, hl65, hx60⟩ := hS57
   refine ⟨_, H58, hs59, ?_⟩
   have H58n : H48.next ≤ H58.next := hx60.1
   refine st_op (ev_move rfl) rfl rfl rfl ?_
   iterate 2 refine st_op (ev_extract rfl rfl) rfl rfl rfl ?_
   iterate 2 refine st_op (ev_assign rfl) rfl rfl rfl ?_
   try show aw _ _ _ _ _ _
   refine aw_seq ?_
   refine aw_reg ?_
   refine st_op (ev_move rfl) rfl rfl rfl ?_
   refine st_op (ev_int rfl rfl rfl) rfl rfl rfl ?_
   iterate 2 refine st_op (ev_move rfl) rfl rfl rfl ?_
   refine st_op (ev_strOf (l := b) (A := A61) (c := c62) slu8_22 isstr_9 rfl (My.anil hm63) (My.row hm63)) rfl rfl rfl ?_
   refine st_op (ev_move rfl) rfl rfl rfl ?_
   have hx67 : Ext H H58 := (Ext.trans (Ext.trans (Ext.trans (Ext.then hx33 hx31 (fun q hq e => by (first | omega | (replace e := hD27 _ e.1; omega)))) hx43) hx50) hx60)
   have h66 := Row.ext hb hx67
   refine st_op (ev_strOf (l := b) (A := bA) (c := bc) slu8_22 isstr_9 rfl ab h66) rfl rfl rfl ?_
   refine st_op (ev_str rfl rfl rfl) rfl rfl rfl ?_
   refine st_op (ev_pickT rfl rfl) rfl rfl rfl ?_
   refine st_op (ev_assign rfl) rfl rfl rfl ?_
   try show aw _ _ _ _ _ _
   refine aw_ret ?_
   have hres : true = (((strOfNums b)).toList == ((strOfNums b)).toList) := by exact (beq_self_eq_true _).symm
   exact ⟨.bool (((strOfNums b)).toList == ((strOfNums b)).toList), rfl, by first | (rw [hres]; done) | rw [← hres], hx67⟩

end Go.AM
