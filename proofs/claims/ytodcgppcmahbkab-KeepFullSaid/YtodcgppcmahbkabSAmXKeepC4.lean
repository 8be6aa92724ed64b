/- Part of a machine of its own for this claim: the program's code over memory without draws. -/
import Derived.Test.YtodcgppcmahbkabSAmXKeepC3
set_option linter.unusedVariables false
set_option linter.unusedSimpArgs false
set_option linter.unnecessarySimpa false
set_option linter.unusedVariables false
set_option linter.unusedSimpArgs false
set_option linter.unnecessarySimpa false
namespace Go.AM
open Go Go.Proofs
theorem law19_begun_spec (H : Heap)  : ∃ v H', Spec Try.prog 18 [] H v H' ∧ ((v = .bool true) ∧ (Ext H H')) := by
 refine spec_go0 E0_ok 79 (f := 18) Try.func18 rfl rfl ?_
 refine aw_seq ?_
 refine aw_reg ?_
 refine st_op (ev_assign rfl) rfl rfl rfl ?_
 try show aw _ _ _ _ _ _
 refine aw_seq ?_
 refine aw_reg ?_
 refine st_call rfl rfl rfl ent10 rfl rfl rfl ?_
 obtain ⟨_, H1, hs2, d3, D4, rfl, ⟨mb8, ps9, hr10⟩, hD6, hx7⟩ := disk_New_spec H
 refine ⟨_, H1, hs2, ?_⟩
 have H1n : H.next ≤ H1.next := hx7.1
 have bd3 := hD6 _ hr10.dp; have bmb8 := hD6 _ hr10.dm
 refine st_op (ev_assign rfl) rfl rfl rfl ?_
 try show aw _ _ _ _ _ _
 refine aw_seq ?_
 refine aw_reg ?_
 refine st_op (ev_move rfl) rfl rfl rfl ?_
 refine st_call rfl rfl rfl ent19 rfl rfl rfl ?_
 obtain ⟨_, H11, hs12, k13, K14, rfl, hr15, hb16, hx17⟩ := keepw_OpenN_spec H1 d3 D4 0 ⟨_, _, hr10⟩ (by omega)
 refine ⟨_, H11, hs12, ?_⟩
 have H11n : H1.next ≤ H11.next := hx17.1
 have hD18 := fun q e => (hb16 q e).imp (hD6 q) id
 have k13b := hD18 _ hr15.kk
 refine st_op (ev_move rfl) rfl rfl rfl ?_
 iterate 2 refine st_op (ev_extract rfl rfl) rfl rfl rfl ?_
 iterate 2 refine st_op (ev_assign rfl) rfl rfl rfl ?_
 try show aw _ _ _ _ _ _
 iterate 2 refine aw_seq ?_
 refine aw_reg ?_
 refine st_op (ev_move rfl) rfl rfl rfl ?_
 refine st_op (ev_int rfl rfl rfl) rfl rfl rfl ?_
 iterate 2 refine st_op (ev_move rfl) rfl rfl rfl ?_
 refine st_op (ev_nilEq rfl rfl Try.underlying42) rfl rfl rfl ?_
 refine st_op (ev_pickF rfl rfl) rfl rfl rfl ?_
 try show aw _ _ _ _ _ _
 refine aw_cond (t := false) rfl ?_
 try show aw _ _ _ _ _ _
 refine aw_skip ?_
 try show aw _ _ _ _ _ _
 refine aw_seq ?_
 refine aw_reg ?_
 refine st_op (ev_move rfl) rfl rfl rfl ?_
 refine st_op (ev_build zero41 pl41 (parts := [(0, .int .i64 2), (1, .int .i64 1)]) rfl (cs := [.int .i64 2, .int .i64 1]) rfl) rfl rfl rfl ?_
 refine st_call rfl rfl rfl ent23 rfl rfl rfl ?_
 have hm28 : Spec.mayF true (2 : Int) (1 : Int) 0 0 0 (⟨#[]⟩ : ByteArray) = true := (by rw [Spec.mayH_eq]; decide)
 have hS19 := keepw_HardOk_spec H11 k13 d3 K14 Spec.KSt0 none 0 hr15 (by omega) (2 : Int) (1 : Int) hm28 (by decide)
 obtain ⟨_, H20, hs21, rfl, K22, k23, hr24, hk25, hb26, hx27⟩ := hS19
 have hg29 : Spec.GoodK (Spec.hardS Spec.KSt0 (2 : Int) (1 : Int)) (some (Spec.addO none (Spec.wholeS Spec.KSt0) (Spec.encH (2 : Int) (1 : Int)))) := (Spec.good_hard Spec.good0 hm28)
 have hz30 : (Spec.hardS Spec.KSt0 (2 : Int) (1 : Int)) = (⟨2, 1, 0, 0, ⟨#[]⟩, ⟨#[]⟩, []⟩ : KSt) := rfl
 rw [hz30] at hr24 hg29
 refine ⟨_, H20, hs21, ?_⟩
 have H20n : H11.next ≤ H20.next := hx27.1
 obtain ⟨f31, hf32⟩ : ∃ f_ : FileS, f_ = (Spec.addO none (Spec.wholeS Spec.KSt0) (Spec.encH (2 : Int) (1 : Int))) := ⟨_, rfl⟩
 rw [← hf32] at hr24 hg29
 have k23b : k23 ≤ 0 + 2 := hk25
 have hD33 := fun q e => (hb26 q e).imp (hD18 q) id
 refine st_op (ev_move rfl) rfl rfl rfl ?_
 refine st_op (ev_build zero54 pl54 (parts := [(0, .int .i64 1), (1, .int .i64 2), (2, .int .i64 1)]) rfl (cs := [.int .i64 1, .int .i64 2, .int .i64 1, .string (⟨#[]⟩)]) rfl) rfl rfl rfl ?_
 obtain ⟨b34, H35, he36, b34e, H35n_, hm38, f37⟩ := mem_lit H20 (xs := ([.agg #[.int .i64 1, .int .i64 2, .int .i64 1, .string (⟨#[]⟩)]] : List Value)) (m := 1) (rows := [[.int .i64 1, .int .i64 2, .int .i64 1, .string (⟨#[]⟩)]]) rfl eok39 (by decide) (by decide) zf54 rfl (allLen rfl) rfl
 replace hm38 : My H20 H35 (some ⟨b34, 0, none⟩) 1 4 ([(⟨1, 2, 1, (⟨#[]⟩ : ByteArray)⟩ : Entry)].map Entry.cells) := hm38
 refine st_op (he36 _ _ _ _ _ _ _ _ rfl) rfl rfl rfl ?_
 have hx39 : Ext H20 H35 := Ext.new (by omega) H35n_ f37
 have H35n : H20.next ≤ H35.next := hx39.1
 refine st_call rfl rfl rfl ent22 rfl rfl rfl ?_
 have h40 := KeepR.ext hr24 hx39
 have hS41 := keepw_Write_spec H35 k13 d3 K22 (⟨2, 1, 0, 0, ⟨#[]⟩, ⟨#[]⟩, []⟩ : KSt) (some f31) k23 h40 (by omega) (some ⟨b34, 0, none⟩) ([(⟨1, 2, 1, (⟨#[]⟩ : ByteArray)⟩ : Entry)]) 1 (My.row hm38) (My.capF hm38 (by first | omega | (simp only [List.length_append, List.length_cons, List.length_nil, List.length_map, List.length_set, List.length_replicate, Spec.bytesOf_length]; omega) | (simp; omega))) (by first | omega | (simp only [List.length_append, List.length_cons, List.length_nil, List.length_map, List.length_set, List.length_replicate, Spec.bytesOf_length]; omega) | (simp; omega)) (Spec.full_ents (by decide)) (by decide)
 obtain ⟨_, H42, hs43, rfl, K44, k45, hr46, hk47, hb48, hx49⟩ := hS41
 have hg50 : Spec.GoodK (Spec.writeS (⟨2, 1, 0, 0, ⟨#[]⟩, ⟨#[]⟩, []⟩ : KSt) ([(⟨1, 2, 1, (⟨#[]⟩ : ByteArray)⟩ : Entry)])) (Spec.writeO (⟨2, 1, 0, 0, ⟨#[]⟩, ⟨#[]⟩, []⟩ : KSt) (some f31) ([(⟨1, 2, 1, (⟨#[]⟩ : ByteArray)⟩ : Entry)])) := (Spec.good_write hg29)
 have hz51 : (Spec.writeE (⟨2, 1, 0, 0, ⟨#[]⟩, ⟨#[]⟩, []⟩ : KSt).si (⟨2, 1, 0, 0, ⟨#[]⟩, ⟨#[]⟩, []⟩ : KSt).l ([(⟨1, 2, 1, (⟨#[]⟩ : ByteArray)⟩ : Entry)])) = 0 := Spec.writeE_ok (e := (⟨1, 2, 1, ⟨#[]⟩⟩ : Entry)) rfl (by decide) (by simp only [Spec.rowE, Spec.mayE_eq]; decide) (by decide)
 have hz52 : (Spec.writeS (⟨2, 1, 0, 0, ⟨#[]⟩, ⟨#[]⟩, []⟩ : KSt) ([(⟨1, 2, 1, (⟨#[]⟩ : ByteArray)⟩ : Entry)])) = (⟨2, 1, 0, 0, ⟨#[]⟩, ⟨#[]⟩, [⟨1, 2, 1, ⟨#[]⟩⟩]⟩ : KSt) := (Spec.writeS_ok hz51).trans rfl
 rw [hz52] at hr46 hg50
 have hz53 : (Spec.writeO (⟨2, 1, 0, 0, ⟨#[]⟩, ⟨#[]⟩, []⟩ : KSt) (some f31) ([(⟨1, 2, 1, (⟨#[]⟩ : ByteArray)⟩ : Entry)])) = (some (Spec.addO (some f31) (Spec.wholeS (⟨2, 1, 0, 0, ⟨#[]⟩, ⟨#[]⟩, []⟩ : KSt)) (Spec.encKs ([(⟨1, 2, 1, (⟨#[]⟩ : ByteArray)⟩ : Entry)])))) := Spec.writeO_ok hz51 (by simp)
 rw [hz53] at hr46 hg50
 have hz54 : (Spec.writeE (⟨2, 1, 0, 0, ⟨#[]⟩, ⟨#[]⟩, []⟩ : KSt).si (⟨2, 1, 0, 0, ⟨#[]⟩, ⟨#[]⟩, []⟩ : KSt).l ([(⟨1, 2, 1, (⟨#[]⟩ : ByteArray)⟩ : Entry)])) = 0 := hz51
 rw [hz54] at hs43
 refine ⟨_, H42, hs43, ?_⟩
 have H42n : H35.next ≤ H42.next := hx49.1
 obtain ⟨f55, hf56⟩ : ∃ f_ : FileS, f_ = (Spec.addO (some f31) (Spec.wholeS (⟨2, 1, 0, 0, ⟨#[]⟩, ⟨#[]⟩, []⟩ : KSt)) (Spec.encKs ([(⟨1, 2, 1, (⟨#[]⟩ : ByteArray)⟩ : Entry)]))) := ⟨_, rfl⟩
 rw [← hf56] at hr46 hg50
 have k45b : k45 ≤ k23 + 2 := hk47
 have hD57 := fun q e => (hb48 q e).imp (hD33 q) id
 refine st_op (ev_move rfl) rfl rfl rfl ?_
 refine st_call rfl rfl rfl ent27 rfl rfl rfl ?_
 have hS58 := keepw_Sync_spec H42 k13 d3 K44 (⟨2, 1, 0, 0, ⟨#[]⟩, ⟨#[]⟩, [⟨1, 2, 1, ⟨#[]⟩⟩]⟩ : KSt) (some f55) k45 hr46 (by omega)
 obtain ⟨_, H59, hs60, rfl, K61, k62, hr63, hk64, hb65, hx66⟩ := hS58
 have hg67 : Spec.GoodK (⟨2, 1, 0, 0, ⟨#[]⟩, ⟨#[]⟩, [⟨1, 2, 1, ⟨#[]⟩⟩]⟩ : KSt) (Spec.syncK (some f55)) := (Spec.good_sync hg50)
 have hz68 : (Spec.syncK (some f55)) = (some ⟨f55.b, (f55.b.length : Int), true⟩) := Spec.syncK_some hg50
 rw [hz68] at hr63 hg67
 refine ⟨_, H59, hs60, ?_⟩
 have H59n : H42.next ≤ H59.next := hx66.1
 obtain ⟨f69, hf70⟩ : ∃ f_ : FileS, f_ = ⟨f55.b, (f55.b.length : Int), true⟩ := ⟨_, rfl⟩
 rw [← hf70] at hr63 hg67
 have k62b : k62 ≤ k45 + 2 := hk64
 have hD71 := fun q e => (hb65 q e).imp (hD57 q) id
 iterate 3 refine st_op (ev_assign rfl) rfl rfl rfl ?_
 try show aw _ _ _ _ _ _
 refine aw_seq ?_
 refine aw_reg ?_
 refine st_op (ev_move rfl) rfl rfl rfl ?_
 refine st_call rfl rfl rfl ent14 rfl rfl rfl ?_
 obtain ⟨D72, mb73, ps74, hr75⟩ := KeepR.disk hr63
 have hS76 := disk_CrashR_spec H59 d3 mb73 D72 (Spec.filesO (some f69)) ps74 k62 hr75 (by omega) (Spec.filesO_len _) 0
 have hc86 : ∀ n, Spec.crashF (Spec.filesO (some f69)) n = Spec.filesO (some f69) := fun n => by rw [hf70]; exact Spec.crash_synced
 rw [hc86 0] at hS76
 obtain ⟨_, H77, hs78, p79, D80, rfl, ⟨mb81, ps82, hr83⟩, hD84, hx85⟩ := hS76
 refine ⟨_, H77, hs78, ?_⟩
 have H77n : H59.next ≤ H77.next := hx85.1
 refine st_call rfl rfl rfl ent19 rfl rfl rfl ?_
 have ho96 := Spec.open_good hg67
 obtain ⟨_, H87, hs88, k89, K90, k91, rfl, hr92, hk93, hb94, hx95⟩ := keepw_OpenY_spec H77 p79 D80 f69 0 ⟨_, _, hr83⟩ (by omega) ho96.1
 rw [ho96.2.1, ho96.2.2] at hr92
 refine ⟨_, H87, hs88, ?_⟩
 have H87n : H77.next ≤ H87.next := hx95.1
 have k91b : k91 ≤ 0 + 1 := hk93
 have hD97 := fun q e => (hb94 q e).imp (hD84 q) id
 have k89b := hD97 _ hr92.kk
 refine st_op (ev_move rfl) rfl rfl rfl ?_
 iterate 2 refine st_op (ev_extract rfl rfl) rfl rfl rfl ?_
 iterate 2 refine st_op (ev_assign rfl) rfl rfl rfl ?_
 try show aw _ _ _ _ _ _
 refine aw_seq ?_
 refine aw_reg ?_
 refine st_op (ev_move rfl) rfl rfl rfl ?_
 refine st_call rfl rfl rfl ent26 rfl rfl rfl ?_
 obtain ⟨_, H98, hs99, A100, c101, rfl, hm102, hx103⟩ := keepw_State_spec H87 k89 p79 K90 (⟨2, 1, 0, 0, ⟨#[]⟩, ⟨#[]⟩, [⟨1, 2, 1, ⟨#[]⟩⟩]⟩ : KSt) (some f69) k91 hr92 (by omega)
 refine ⟨_, H98, hs99, ?_⟩
 have H98n : H87.next ≤ H98.next := hx103.1
 replace hm102 : My H87 H98 A100 c101 4 (([⟨1, 2, 1, ⟨#[]⟩⟩] : List Entry).map Entry.cells) := hm102
 obtain ⟨b104, H105, he106, b104e, H105n_, hB108, f107⟩ := mem_alloc H98 zero61
 refine st_op (he106 _ _ _ _ _ _ _) rfl rfl rfl ?_
 have hx109 : Ext H98 H105 := Ext.new (by omega) H105n_ f107
 have H105n : H98.next ≤ H105.next := hx109.1
 obtain ⟨H110, he111, H110n_, hB112, f113⟩ := mem_store (v := .agg #[.int .i64 ((⟨2, 1, 0, 0, ⟨#[]⟩, ⟨#[]⟩, [⟨1, 2, 1, ⟨#[]⟩⟩]⟩ : KSt).ht), .int .i64 ((⟨2, 1, 0, 0, ⟨#[]⟩, ⟨#[]⟩, [⟨1, 2, 1, ⟨#[]⟩⟩]⟩ : KSt).hv), .int .i64 ((⟨2, 1, 0, 0, ⟨#[]⟩, ⟨#[]⟩, [⟨1, 2, 1, ⟨#[]⟩⟩]⟩ : KSt).si), .int .i64 ((⟨2, 1, 0, 0, ⟨#[]⟩, ⟨#[]⟩, [⟨1, 2, 1, ⟨#[]⟩⟩]⟩ : KSt).st), .string ((⟨2, 1, 0, 0, ⟨#[]⟩, ⟨#[]⟩, [⟨1, 2, 1, ⟨#[]⟩⟩]⟩ : KSt).sc), .string ((⟨2, 1, 0, 0, ⟨#[]⟩, ⟨#[]⟩, [⟨1, 2, 1, ⟨#[]⟩⟩]⟩ : KSt).sd), .slice A100 (([⟨1, 2, 1, ⟨#[]⟩⟩] : List Entry).length) c101]) (o := 0) (cs' := [.int .i64 ((⟨2, 1, 0, 0, ⟨#[]⟩, ⟨#[]⟩, [⟨1, 2, 1, ⟨#[]⟩⟩]⟩ : KSt).ht), .int .i64 ((⟨2, 1, 0, 0, ⟨#[]⟩, ⟨#[]⟩, [⟨1, 2, 1, ⟨#[]⟩⟩]⟩ : KSt).hv), .int .i64 ((⟨2, 1, 0, 0, ⟨#[]⟩, ⟨#[]⟩, [⟨1, 2, 1, ⟨#[]⟩⟩]⟩ : KSt).si), .int .i64 ((⟨2, 1, 0, 0, ⟨#[]⟩, ⟨#[]⟩, [⟨1, 2, 1, ⟨#[]⟩⟩]⟩ : KSt).st), .string ((⟨2, 1, 0, 0, ⟨#[]⟩, ⟨#[]⟩, [⟨1, 2, 1, ⟨#[]⟩⟩]⟩ : KSt).sc), .string ((⟨2, 1, 0, 0, ⟨#[]⟩, ⟨#[]⟩, [⟨1, 2, 1, ⟨#[]⟩⟩]⟩ : KSt).sd), .slice A100 (([⟨1, 2, 1, ⟨#[]⟩⟩] : List Entry).length) c101]) 7 rfl rfl size61 hB108 rfl rfl rfl
 refine st_op0 (he111 _ _ _ _ _ _ _ _ _ rfl rfl) rfl rfl ?_
 have hf114 : Fr (fun q => q = b104) H105 H110 := Fr.write H110n_ f113
 have H110n : H105.next ≤ H110.next := hf114.1
 try show aw _ _ _ _ _ _
 refine aw_seq ?_
 refine aw_reg ?_
 refine st_op (ev_move rfl) rfl rfl rfl ?_
 refine st_op (ev_int rfl rfl rfl) rfl rfl rfl ?_
 iterate 2 refine st_op (ev_move rfl) rfl rfl rfl ?_
 refine st_op (ev_int rfl rfl rfl) rfl rfl rfl ?_
 refine st_op (ev_pickT rfl rfl) rfl rfl rfl ?_
 iterate 2 refine st_op (ev_move rfl) rfl rfl rfl ?_
 refine st_op (ev_int rfl rfl rfl) rfl rfl rfl ?_
 refine st_op (ev_pickT rfl rfl) rfl rfl rfl ?_
 iterate 2 refine st_op (ev_move rfl) rfl rfl rfl ?_
 refine st_op (ev_int rfl rfl rfl) rfl rfl rfl ?_
 refine st_op (ev_pickT rfl rfl) rfl rfl rfl ?_
 refine st_op (ev_move rfl) rfl rfl rfl ?_
 refine st_op (ev_fieldAddr rfl fa61_0 (o' := 0) rfl) rfl rfl rfl ?_
 refine st_op (ev_fieldAddr rfl fa41_0 (o' := 0) rfl) rfl rfl rfl ?_
 refine st_op (ev_load rfl (lvar_one one2 hB112 rfl)) rfl rfl rfl ?_
 refine st_op (ev_int rfl rfl rfl) rfl rfl rfl ?_
 refine st_op (ev_pickT rfl rfl) rfl rfl rfl ?_
 refine st_op (ev_move rfl) rfl rfl rfl ?_
 refine st_bool 59 rfl (fun hb115 => ?_) (fun hb115 => ?_)
 ·
  have hb115 := eq_of_beq hb115
  refine st_op (ev_fieldAddr rfl fa61_0 (o' := 0) rfl) rfl rfl rfl ?_
  refine st_op (ev_fieldAddr rfl fa41_1 (o' := 1) rfl) rfl rfl rfl ?_
  refine st_op (ev_load rfl (lvar_one one3 hB112 rfl)) rfl rfl rfl ?_
  refine st_op (ev_int rfl rfl rfl) rfl rfl rfl ?_
  refine st_op (ev_pickT rfl rfl) rfl rfl rfl ?_
  refine st_op (ev_move rfl) rfl rfl rfl ?_
  refine st_bool 65 rfl (fun hb116 => ?_) (fun hb116 => ?_)
  ·
   have hb116 := eq_of_beq hb116
   refine st_op (ev_fieldAddr rfl fa61_2 (o' := 6) rfl) rfl rfl rfl ?_
   refine st_op (ev_load rfl (lvar_one one39 hB112 rfl)) rfl rfl rfl ?_
   refine st_op (ev_lenSl rfl Try.underlying39) rfl rfl rfl ?_
   refine st_op (ev_int rfl rfl rfl) rfl rfl rfl ?_
   refine st_op (ev_pickT rfl rfl) rfl rfl rfl ?_
   refine st_op (ev_move rfl) rfl rfl rfl ?_
   refine st_bool 71 rfl (fun hb117 => ?_) (fun hb117 => ?_)
   ·
    have hb117 := eq_of_beq hb117
    refine st_op (ev_fieldAddr rfl fa61_2 (o' := 6) rfl) rfl rfl rfl ?_
    refine st_op (ev_load rfl (lvar_one one39 hB112 rfl)) rfl rfl rfl ?_
    have hx119 : Ext H98 H110 := (Ext.then hx109 hf114 (fun q hq e => by omega))
    have h118 := My.ext hm102 hx119
    have hi120 : 0 ≤ (0 : Int) := by omega
    have hi121 : (0 : Int) < ((([⟨1, 2, 1, ⟨#[]⟩⟩] : List Entry).length : Nat) : Int) := by first | omega | (simp only [List.length_append, List.length_cons, List.length_nil, List.length_map, List.length_set, List.length_replicate, Spec.bytesOf_length]; omega) | (simp; omega)
    obtain ⟨x122, hx123⟩ : ∃ e, ([⟨1, 2, 1, ⟨#[]⟩⟩] : List Entry)[0]? = some e := ⟨_, List.getElem?_eq_getElem (by first | omega | (simp only [List.length_append, List.length_cons, List.length_nil, List.length_map, List.length_set, List.length_replicate, Spec.bytesOf_length]; omega) | (simp; omega))⟩
    refine st_op (ev_at rfl rfl (My.row h118) (getMap Entry.cells hx123) (by first | rfl | omega | simp) hi120 hi121 el39) rfl rfl rfl ?_
    refine st_op (ev_atF rfl (My.row h118) (getMap Entry.cells hx123) fa54_0 rfl) rfl rfl rfl ?_
    refine st_op (ev_atL rfl (My.row h118) (getMap Entry.cells hx123) one2 rfl) rfl rfl rfl ?_
    refine st_op (ev_int rfl rfl rfl) rfl rfl rfl ?_
    refine st_op (ev_pickT rfl rfl) rfl rfl rfl ?_
    refine st_op (ev_assign rfl) rfl rfl rfl ?_
    try show aw _ _ _ _ _ _
    refine aw_ret ?_
    have hx124 : Ext H H110 := (Ext.then (Ext.trans (Ext.trans (Ext.then (Ext.trans (Ext.then (Ext.then (Ext.trans (Ext.then (Ext.trans hx7 hx17) hx27 (fun q hq e => by (first | omega | (replace e := hD18 _ e.1; omega)))) hx39) hx49 (fun q hq e => by (first | omega | (replace e := hD33 _ e.1; omega)))) hx66 (fun q hq e => by (first | omega | (replace e := hD57 _ e.1; omega)))) hx85) hx95 (fun q hq e => by (first | omega | (replace e := hD84 _ e.1; omega)))) hx103) hx109) hf114 (fun q hq e => by omega))
    exact ⟨.bool (x122.index == 1), rfl, by rw [show x122 = (⟨1, 2, 1, ⟨#[]⟩⟩ : Entry) from (Option.some.inj hx123).symm]; rfl, hx124⟩
   ·
    exact Bool.noConfusion (hb117.symm.trans (show _ = true from by kernel_rfl))
  ·
   exact Bool.noConfusion (hb116.symm.trans (show _ = true from by kernel_rfl))
 ·
  exact Bool.noConfusion (hb115.symm.trans (show _ = true from by kernel_rfl))

end Go.AM
