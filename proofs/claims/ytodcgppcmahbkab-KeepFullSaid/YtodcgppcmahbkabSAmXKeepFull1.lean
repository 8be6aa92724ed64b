/- Part of a machine of its own for this claim: the program's code over memory without draws. -/
import Derived.Test.YtodcgppcmahbkabSAmXKeepC4
set_option linter.unusedVariables false
set_option linter.unusedSimpArgs false
set_option linter.unnecessarySimpa false
set_option linter.unusedVariables false
set_option linter.unusedSimpArgs false
set_option linter.unnecessarySimpa false
namespace Go.AM
open Go Go.Proofs
theorem ent18 : enters Try.prog 18 = true := by kernel_rfl
theorem fd61_2 : fieldFlat Try.prog 61 2 6 = true := by kernel_rfl
theorem law_KeepFull_spec (H : Heap) (n : Int) (hn : -9223372036854775808 ≤ n ∧ n ≤ 9223372036854775807) : ∃ v H', Spec Try.prog 6 [.int .i64 n] H v H' ∧ ((v = .bool true) ∧ (Ext H H')) := by
 refine spec_go1 E0_ok 63 (f := 6) Try.func6 rfl rfl rfl ?_
 refine aw_seq ?_
 refine aw_reg ?_
 refine st_op (ev_assign rfl) rfl rfl rfl ?_
 try show aw _ _ _ _ _ _
 refine aw_seq ?_
 refine aw_reg ?_
 refine st_call rfl rfl rfl ent18 rfl rfl rfl ?_
 obtain ⟨_, H2, hs1, hs1v, hx3⟩ := law19_begun_spec H 
 rw [hs1v] at hs1; clear hs1v
 refine ⟨_, H2, hs1, ?_⟩
 have H2n : H.next ≤ H2.next := hx3.1
 refine st_op (ev_assign rfl) rfl rfl rfl ?_
 try show aw _ _ _ _ _ _
 iterate 2 refine aw_seq ?_
 refine aw_reg ?_
 refine st_op (ev_move rfl) rfl rfl rfl ?_
 refine st_op (ev_not rfl) rfl rfl rfl ?_
 try show aw _ _ _ _ _ _
 refine aw_cond (t := false) rfl ?_
 try show aw _ _ _ _ _ _
 refine aw_skip ?_
 try show aw _ _ _ _ _ _
 iterate 2 refine aw_seq ?_
 refine aw_reg ?_
 refine st_op (ev_move rfl) rfl rfl rfl ?_
 refine st_op (ev_int rfl rfl rfl) rfl rfl rfl ?_
 refine st_op (ev_move rfl) rfl rfl rfl ?_
 refine st_bool 13 rfl (fun hb4 => ?_) (fun hb4 => ?_)
 ·
  have hb4 := of_decide_eq_true hb4
  iterate 2 refine st_skip rfl rfl rfl ?_
  refine st_op (ev_pickT rfl rfl) rfl rfl rfl ?_
  try show aw _ _ _ _ _ _
  refine aw_cond (t := true) rfl ?_
  try show aw _ _ _ _ _ _
  refine aw_seq ?_
  refine aw_reg ?_
  refine st_op (ev_assign rfl) rfl rfl rfl ?_
  try show aw _ _ _ _ _ _
  refine aw_ret ?_
  have hres : true = true := by rfl
  exact ⟨.bool true, rfl, by first | (rw [hres]; done) | rw [← hres], hx3⟩
 ·
  have hb4 := of_decide_eq_false hb4
  refine st_op (ev_move rfl) rfl rfl rfl ?_
  refine st_op (ev_int rfl rfl rfl) rfl rfl rfl ?_
  refine st_op (ev_pickF rfl rfl) rfl rfl rfl ?_
  try show aw _ _ _ _ _ _
  by_cases hc5 : (decide (n > 220)) = true
  ·
   refine aw_condT hc5 rfl ?_
   try show aw _ _ _ _ _ _
   have hc5 := of_decide_eq_true hc5
   refine aw_seq ?_
   refine aw_reg ?_
   refine st_op (ev_assign rfl) rfl rfl rfl ?_
   try show aw _ _ _ _ _ _
   refine aw_ret ?_
   have hres : true = true := by rfl
   exact ⟨.bool true, rfl, by first | (rw [hres]; done) | rw [← hres], hx3⟩
  ·
   rw [Bool.not_eq_true] at hc5; refine aw_condF hc5 rfl ?_
   try show aw _ _ _ _ _ _
   have hc5 := of_decide_eq_false hc5
   refine aw_skip ?_
   try show aw _ _ _ _ _ _
   refine aw_seq ?_
   refine aw_reg ?_
   refine st_call rfl rfl rfl ent10 rfl rfl rfl ?_
   obtain ⟨_, H6, hs7, d8, D9, rfl, ⟨mb13, ps14, hr15⟩, hD11, hx12⟩ := disk_New_spec H2
   refine ⟨_, H6, hs7, ?_⟩
   have H6n : H2.next ≤ H6.next := hx12.1
   have bd8 := hD11 _ hr15.dp; have bmb13 := hD11 _ hr15.dm
   refine st_call rfl rfl rfl ent19 rfl rfl rfl ?_
   obtain ⟨_, H16, hs17, k18, K19, rfl, hr20, hb21, hx22⟩ := keepw_OpenN_spec H6 d8 D9 0 ⟨_, _, hr15⟩ (by omega)
   refine ⟨_, H16, hs17, ?_⟩
   have H16n : H6.next ≤ H16.next := hx22.1
   have hD23 := fun q e => (hb21 q e).imp (hD11 q) id
   have k18b := hD23 _ hr20.kk
   refine st_op (ev_move rfl) rfl rfl rfl ?_
   iterate 2 refine st_op (ev_extract rfl rfl) rfl rfl rfl ?_
   iterate 2 refine st_op (ev_assign rfl) rfl rfl rfl ?_
   try show aw _ _ _ _ _ _
   iterate 2 refine aw_seq ?_
   refine aw_reg ?_
   refine st_op (ev_move rfl) rfl rfl rfl ?_
   refine st_op (ev_int rfl rfl rfl) rfl rfl rfl ?_
   try show aw _ _ _ _ _ _
   refine aw_cond (t := false) rfl ?_
   try show aw _ _ _ _ _ _
   refine aw_skip ?_
   try show aw _ _ _ _ _ _
   iterate 2 refine aw_seq ?_
   refine aw_reg ?_
   refine st_op (ev_assign rfl) rfl rfl rfl ?_
   try show aw _ _ _ _ _ _
   refine aw_block ?_
   refine aw_keep [0, 4, 6] (l' := (.cons 0 (.int .i64 n) (.cons 4 (.pointer (some ⟨k18, 0, none⟩)) (.cons 6 (.int .i64 1) .nil)))) (by repeat (first | exact Up.done | refine Up.then ?_ | refine Up.inBlock ?_)) rfl ?_
   refine aw_iter (α := Int × (Option FileS) × Int × (Nat → Prop) × Heap) (fun a => (n + 1 - a.1).toNat) (fun a => (.cons 0 (.int .i64 n) (.cons 4 (.pointer (some ⟨k18, 0, none⟩)) (.cons 6 (.int .i64 a.1) .nil)))) (fun a => a.2.2.2.2) (fun a => (a.1 ≤ n + 1) ∧ (a.2.2.1 ≤ 2 * a.1) ∧ (1 ≤ a.1 ∧ a.1 ≤ 221) ∧ (KeepR a.2.2.2.1 a.2.2.2.2 k18 d8 (Spec.fullS (a.1 - 1).toNat) a.2.1 a.2.2.1) ∧ (Spec.GoodK (Spec.fullS (a.1 - 1).toNat) a.2.1) ∧ (∀ q, a.2.2.2.1 q → K19 q ∨ (H16.next ≤ q ∧ q < a.2.2.2.2.next)) ∧ (Fr (fun q => (K19 q ∧ Z01 H16 q)) H16 a.2.2.2.2)) ((1 : Int), none, 0, K19, H16) ⟨(show (1 : Int) ≤ n + 1 from (by omega)), (show 0 ≤ 2 * (1 : Int) from (by omega)), (show 1 ≤ (1 : Int) ∧ (1 : Int) ≤ 221 from ⟨by omega, by omega⟩), (show KeepR K19 H16 k18 d8 (Spec.fullS ((1 : Int) - 1).toNat) none 0 from hr20), (show Spec.GoodK (Spec.fullS ((1 : Int) - 1).toNat) none from Spec.good0), (show ∀ q, K19 q → K19 q ∨ (H16.next ≤ q ∧ q < H16.next) from (fun q e => .inl e)), (show Fr (fun q => (K19 q ∧ Z01 H16 q)) H16 H16 from (Fr.refl _ H16))⟩ ?_
   rintro ⟨i, oq, kq, K2, Hl24⟩ ⟨hi, hk, hn25, hr26, hg28, hD27, hxl29⟩ ih30
   replace hi : i ≤ n + 1 := hi
   replace hk : kq ≤ 2 * i := hk
   replace hn25 : 1 ≤ i ∧ i ≤ 221 := hn25
   replace hr26 : KeepR K2 Hl24 k18 d8 (Spec.fullS (i - 1).toNat) oq kq := hr26
   replace hg28 : Spec.GoodK (Spec.fullS (i - 1).toNat) oq := hg28
   replace hD27 : ∀ q, K2 q → K19 q ∨ (H16.next ≤ q ∧ q < Hl24.next) := hD27
   replace hxl29 : Fr (fun q => (K19 q ∧ Z01 H16 q)) H16 Hl24 := hxl29
   show aw _ _ _ (RL _ (.cons 0 (.int .i64 n) (.cons 4 (.pointer (some ⟨k18, 0, none⟩)) (.cons 6 (.int .i64 i) .nil)))) Hl24 _
   have Hl24n : H16.next ≤ Hl24.next := hxl29.1
   have hD31 := fun q e => (hD27 q e).imp (hD23 q) id
   iterate 2 refine aw_seq ?_
   refine aw_reg ?_
   iterate 2 refine st_op (ev_move rfl) rfl rfl rfl ?_
   refine st_op (ev_int rfl rfl rfl) rfl rfl rfl ?_
   try show aw _ _ _ _ _ _
   by_cases hc32 : (decide (i ≤ n)) = true
   ·
    refine aw_condT hc32 rfl ?_
    try show aw _ _ _ _ _ _
    have hc32 := of_decide_eq_true hc32
    refine aw_skip ?_
    try show aw _ _ _ _ _ _
    refine aw_seq ?_
    refine aw_block ?_
    refine aw_seq ?_
    refine aw_reg ?_
    iterate 2 refine st_op (ev_move rfl) rfl rfl rfl ?_
    refine st_op (ev_build zero54 pl54 (parts := [(0, .int .i64 i), (1, .int .i64 1), (2, .int .i64 1)]) rfl (cs := [.int .i64 i, .int .i64 1, .int .i64 1, .string (⟨#[]⟩)]) rfl) rfl rfl rfl ?_
    obtain ⟨b33, H34, he35, b33e, H34n_, hm37, f36⟩ := mem_lit Hl24 (xs := ([.agg #[.int .i64 i, .int .i64 1, .int .i64 1, .string (⟨#[]⟩)]] : List Value)) (m := 1) (rows := [[.int .i64 i, .int .i64 1, .int .i64 1, .string (⟨#[]⟩)]]) rfl eok39 (by decide) (by decide) zf54 rfl (allLen rfl) rfl
    replace hm37 : My Hl24 H34 (some ⟨b33, 0, none⟩) 1 4 ([(⟨i, 1, 1, (⟨#[]⟩ : ByteArray)⟩ : Entry)].map Entry.cells) := hm37
    refine st_op (he35 _ _ _ _ _ _ _ _ rfl) rfl rfl rfl ?_
    have hx38 : Ext Hl24 H34 := Ext.new (by omega) H34n_ f36
    have H34n : Hl24.next ≤ H34.next := hx38.1
    refine st_call rfl rfl rfl ent22 rfl rfl rfl ?_
    have h39 := KeepR.ext hr26 hx38
    have hS40 := keepw_Write_spec H34 k18 d8 K2 (Spec.fullS (i - 1).toNat) oq kq h39 (by omega) (some ⟨b33, 0, none⟩) ([(⟨i, 1, 1, (⟨#[]⟩ : ByteArray)⟩ : Entry)]) 1 (My.row hm37) (My.capF hm37 (by first | omega | (simp only [List.length_append, List.length_cons, List.length_nil, List.length_map, List.length_set, List.length_replicate, Spec.bytesOf_length]; omega) | (simp; omega))) (by first | omega | (simp only [List.length_append, List.length_cons, List.length_nil, List.length_map, List.length_set, List.length_replicate, Spec.bytesOf_length]; omega) | (simp; omega)) (Spec.full_ents (by omega)) (show (⟨#[]⟩ : ByteArray).size ≤ 200 by decide)
    obtain ⟨_, H41, hs42, rfl, K43, k44, hr45, hk46, hb47, hx48⟩ := hS40
    have hg49 : Spec.GoodK (Spec.writeS (Spec.fullS (i - 1).toNat) ([(⟨i, 1, 1, (⟨#[]⟩ : ByteArray)⟩ : Entry)])) (Spec.writeO (Spec.fullS (i - 1).toNat) oq ([(⟨i, 1, 1, (⟨#[]⟩ : ByteArray)⟩ : Entry)])) := (Spec.good_write hg28)
    have hz50 := Spec.full_write (i := (i - 1).toNat) (x := i) (by omega) (by omega)
    have hz51 : (Spec.writeS (Spec.fullS (i - 1).toNat) ([(⟨i, 1, 1, (⟨#[]⟩ : ByteArray)⟩ : Entry)])) = (Spec.fullS ((i - 1).toNat + 1)) := hz50.2
    rw [hz51] at hr45 hg49
    refine ⟨_, H41, hs42, ?_⟩
    have H41n : H34.next ≤ H41.next := hx48.1
    obtain ⟨o52, ho53⟩ : ∃ o_ : Option FileS, o_ = (Spec.writeO (Spec.fullS (i - 1).toNat) oq ([(⟨i, 1, 1, (⟨#[]⟩ : ByteArray)⟩ : Entry)])) := ⟨_, rfl⟩
    rw [← ho53] at hr45 hg49
    have k44b : k44 ≤ kq + 2 := hk46
    have hD54 := fun q e => (hb47 q e).imp (hD31 q) id
    have hS55 : ∀ q, K43 q → K19 q ∨ (H16.next ≤ q ∧ q < H41.next) := fun q e => (hb47 q e).elim (fun e => (hD27 q e).imp id (fun e => by omega)) (fun e => .inr (by omega))
    refine st_op (ev_assign rfl) rfl rfl rfl ?_
    try show aw _ _ _ _ _ _
    refine aw_seq ?_
    refine aw_reg ?_
    refine st_op (ev_move rfl) rfl rfl rfl ?_
    refine st_op (ev_int rfl rfl rfl) rfl rfl rfl ?_
    refine st_op (ev_move rfl) rfl rfl rfl ?_
    refine st_bool 36 rfl (fun hb56 => ?_) (fun hb56 => ?_)
    ·
     have hb56 := of_decide_eq_true hb56
     refine st_op (ev_move rfl) rfl rfl rfl ?_
     refine st_op (ev_int rfl rfl rfl) rfl rfl rfl ?_
     refine st_op (ev_pickT rfl rfl) rfl rfl rfl ?_
     refine st_op (ev_move rfl) rfl rfl rfl ?_
     refine st_bool 40 rfl (fun hb57 => ?_) (fun hb57 => ?_)
     ·
      exact absurd hb57 (by rw [hz50.1, if_pos (by omega)]; decide)
     ·
      have hb57 : ((Spec.writeE (Spec.fullS (i - 1).toNat).si (Spec.fullS (i - 1).toNat).l ([(⟨i, 1, 1, (⟨#[]⟩ : ByteArray)⟩ : Entry)])) = 0) := by simpa using hb57
      refine st_op (ev_move rfl) rfl rfl rfl ?_
      refine st_op (ev_int rfl rfl rfl) rfl rfl rfl ?_
      refine st_op (ev_move rfl) rfl rfl rfl ?_
      refine st_bool 43 rfl (fun hb58 => ?_) (fun hb58 => ?_)
      ·
       have hb58 := eq_of_beq hb58
       exfalso; omega
      ·
       have hb58 := ne_of_beq_false hb58
       iterate 2 refine st_skip rfl rfl rfl ?_
       iterate 2 refine st_op (ev_pickF rfl rfl) rfl rfl rfl ?_
       iterate 2 refine st_op (ev_move rfl) rfl rfl rfl ?_
       refine st_op (ev_int rfl rfl rfl) rfl rfl rfl ?_
       refine st_op (ev_move rfl) rfl rfl rfl ?_
       refine st_bool 51 rfl (fun hb59 => ?_) (fun hb59 => ?_)
       ·
        have hb59 := of_decide_eq_true hb59
        exfalso; omega
       ·
        have hb59 := of_decide_eq_false hb59
        iterate 2 refine st_skip rfl rfl rfl ?_
        iterate 2 refine st_op (ev_pickF rfl rfl) rfl rfl rfl ?_
        try show aw _ _ _ _ _ _
        refine aw_cond (t := false) rfl ?_
        try show aw _ _ _ _ _ _
        refine aw_skip ?_
        try show aw _ _ _ _ _ _
        refine aw_reg ?_
        refine st_op (ev_move rfl) rfl rfl rfl ?_
        refine st_op (ev_int64 (c := i + 1) rfl rfl rfl (by omega) (by omega)) rfl rfl rfl ?_
        refine st_op (ev_assign rfl) rfl rfl rfl ?_
        try show aw _ _ _ _ _ _
        refine aw_keep [0, 4, 6] (l' := (.cons 0 (.int .i64 n) (.cons 4 (.pointer (some ⟨k18, 0, none⟩)) (.cons 6 (.int .i64 (i + 1)) .nil)))) (by repeat (first | exact Up.done | refine Up.then ?_ | refine Up.inBlock ?_)) rfl ?_
        exact ih30 (i + 1, o52, k44, K43, H41) ⟨(show (i + 1) ≤ n + 1 from (by omega)), (show k44 ≤ 2 * (i + 1) from (by omega)), (show 1 ≤ (i + 1) ∧ (i + 1) ≤ 221 from ⟨by omega, by omega⟩), (show KeepR K43 H41 k18 d8 (Spec.fullS ((i + 1) - 1).toNat) o52 k44 from (by have h9 := hr45; rw [show (i - 1).toNat + 1 = (i + 1 - 1).toNat by omega] at h9; exact h9)), (show Spec.GoodK (Spec.fullS ((i + 1) - 1).toNat) o52 from (by have h9 := hg49; rw [show (i - 1).toNat + 1 = (i + 1 - 1).toNat by omega] at h9; exact h9)), (show ∀ q, K43 q → K19 q ∨ (H16.next ≤ q ∧ q < H41.next) from (fun q e => (hS55 q e).imp id (fun e => by omega))), (show Fr (fun q => (K19 q ∧ Z01 H16 q)) H16 H41 from (Fr.transG (Fr.trans (Fr.transG (Fr.refl (fun q => (K19 q ∧ Z01 H16 q)) H16) hxl29 (fun q hq hE e => (⟨e.1, Z01.back hE e.2⟩))) (hx38.fr fun _ => False) (fun q hq (e : False) => e.elim)) hx48 (fun q hq hE e => (Or.elim (hD27 q e.1) (fun d => (⟨d, Z01.back hE e.2⟩)) (fun d => absurd hq (by omega))))))⟩ (by simp only; omega)
    ·
     have hb56 := of_decide_eq_false hb56
     iterate 2 refine st_skip rfl rfl rfl ?_
     refine st_op (ev_pickF rfl rfl) rfl rfl rfl ?_
     iterate 2 refine st_op (ev_move rfl) rfl rfl rfl ?_
     refine st_op (ev_int rfl rfl rfl) rfl rfl rfl ?_
     refine st_op (ev_move rfl) rfl rfl rfl ?_
     refine st_bool 43 rfl (fun hb60 => ?_) (fun hb60 => ?_)
     ·
      have hb60 := eq_of_beq hb60
      refine st_op (ev_move rfl) rfl rfl rfl ?_
      refine st_op (ev_int rfl rfl rfl) rfl rfl rfl ?_
      refine st_op (ev_pickT rfl rfl) rfl rfl rfl ?_
      refine st_op (ev_pickF rfl rfl) rfl rfl rfl ?_
      refine st_op (ev_move rfl) rfl rfl rfl ?_
      refine st_bool 48 rfl (fun hb61 => ?_) (fun hb61 => ?_)
      ·
       exact absurd hb61 (by rw [hz50.1, if_neg (by omega), if_pos (by omega)]; decide)
      ·
       have hb61 : ((Spec.writeE (Spec.fullS (i - 1).toNat).si (Spec.fullS (i - 1).toNat).l ([(⟨i, 1, 1, (⟨#[]⟩ : ByteArray)⟩ : Entry)])) = 5) := by simpa using hb61
       refine st_op (ev_move rfl) rfl rfl rfl ?_
       refine st_op (ev_int rfl rfl rfl) rfl rfl rfl ?_
       refine st_op (ev_move rfl) rfl rfl rfl ?_
       refine st_bool 51 rfl (fun hb62 => ?_) (fun hb62 => ?_)
       ·
        have hb62 := of_decide_eq_true hb62
        exfalso; omega
       ·
        have hb62 := of_decide_eq_false hb62
        iterate 2 refine st_skip rfl rfl rfl ?_
        iterate 2 refine st_op (ev_pickF rfl rfl) rfl rfl rfl ?_
        try show aw _ _ _ _ _ _
        refine aw_cond (t := false) rfl ?_
        try show aw _ _ _ _ _ _
        refine aw_skip ?_
        try show aw _ _ _ _ _ _
        refine aw_reg ?_
        refine st_op (ev_move rfl) rfl rfl rfl ?_
        refine st_op (ev_int64 (c := i + 1) rfl rfl rfl (by omega) (by omega)) rfl rfl rfl ?_
        refine st_op (ev_assign rfl) rfl rfl rfl ?_
        try show aw _ _ _ _ _ _
        refine aw_keep [0, 4, 6] (l' := (.cons 0 (.int .i64 n) (.cons 4 (.pointer (some ⟨k18, 0, none⟩)) (.cons 6 (.int .i64 (i + 1)) .nil)))) (by repeat (first | exact Up.done | refine Up.then ?_ | refine Up.inBlock ?_)) rfl ?_
        exact ih30 (i + 1, o52, k44, K43, H41) ⟨(show (i + 1) ≤ n + 1 from (by omega)), (show k44 ≤ 2 * (i + 1) from (by omega)), (show 1 ≤ (i + 1) ∧ (i + 1) ≤ 221 from ⟨by omega, by omega⟩), (show KeepR K43 H41 k18 d8 (Spec.fullS ((i + 1) - 1).toNat) o52 k44 from (by have h9 := hr45; rw [show (i - 1).toNat + 1 = (i + 1 - 1).toNat by omega] at h9; exact h9)), (show Spec.GoodK (Spec.fullS ((i + 1) - 1).toNat) o52 from (by have h9 := hg49; rw [show (i - 1).toNat + 1 = (i + 1 - 1).toNat by omega] at h9; exact h9)), (show ∀ q, K43 q → K19 q ∨ (H16.next ≤ q ∧ q < H41.next) from (fun q e => (hS55 q e).imp id (fun e => by omega))), (show Fr (fun q => (K19 q ∧ Z01 H16 q)) H16 H41 from (Fr.transG (Fr.trans (Fr.transG (Fr.refl (fun q => (K19 q ∧ Z01 H16 q)) H16) hxl29 (fun q hq hE e => (⟨e.1, Z01.back hE e.2⟩))) (hx38.fr fun _ => False) (fun q hq (e : False) => e.elim)) hx48 (fun q hq hE e => (Or.elim (hD27 q e.1) (fun d => (⟨d, Z01.back hE e.2⟩)) (fun d => absurd hq (by omega))))))⟩ (by simp only; omega)
     ·
      have hb60 := ne_of_beq_false hb60
      iterate 2 refine st_skip rfl rfl rfl ?_
      iterate 2 refine st_op (ev_pickF rfl rfl) rfl rfl rfl ?_
      iterate 2 refine st_op (ev_move rfl) rfl rfl rfl ?_
      refine st_op (ev_int rfl rfl rfl) rfl rfl rfl ?_
      refine st_op (ev_move rfl) rfl rfl rfl ?_
      refine st_bool 51 rfl (fun hb63 => ?_) (fun hb63 => ?_)
      ·
       have hb63 := of_decide_eq_true hb63
       refine st_op (ev_move rfl) rfl rfl rfl ?_
       refine st_op (ev_int rfl rfl rfl) rfl rfl rfl ?_
       refine st_op (ev_pickT rfl rfl) rfl rfl rfl ?_
       refine st_op (ev_pickF rfl rfl) rfl rfl rfl ?_
       try show aw _ _ _ _ _ _
       by_cases hc64 : ((Spec.writeE (Spec.fullS (i - 1).toNat).si (Spec.fullS (i - 1).toNat).l ([(⟨i, 1, 1, (⟨#[]⟩ : ByteArray)⟩ : Entry)])) != 1) = true
       ·
        refine aw_condT hc64 rfl ?_
        try show aw _ _ _ _ _ _
        exact absurd hc64 (by rw [hz50.1, if_neg (by omega), if_neg (by omega)]; decide)
       ·
        rw [Bool.not_eq_true] at hc64; refine aw_condF hc64 rfl ?_
        try show aw _ _ _ _ _ _
        have hc64 : ((Spec.writeE (Spec.fullS (i - 1).toNat).si (Spec.fullS (i - 1).toNat).l ([(⟨i, 1, 1, (⟨#[]⟩ : ByteArray)⟩ : Entry)])) = 1) := by simpa using hc64
        refine aw_skip ?_
        try show aw _ _ _ _ _ _
        refine aw_reg ?_
        refine st_op (ev_move rfl) rfl rfl rfl ?_
        refine st_op (ev_int64 (c := i + 1) rfl rfl rfl (by omega) (by omega)) rfl rfl rfl ?_
        refine st_op (ev_assign rfl) rfl rfl rfl ?_
        try show aw _ _ _ _ _ _
        refine aw_keep [0, 4, 6] (l' := (.cons 0 (.int .i64 n) (.cons 4 (.pointer (some ⟨k18, 0, none⟩)) (.cons 6 (.int .i64 (i + 1)) .nil)))) (by repeat (first | exact Up.done | refine Up.then ?_ | refine Up.inBlock ?_)) rfl ?_
        exact ih30 (i + 1, o52, k44, K43, H41) ⟨(show (i + 1) ≤ n + 1 from (by omega)), (show k44 ≤ 2 * (i + 1) from (by omega)), (show 1 ≤ (i + 1) ∧ (i + 1) ≤ 221 from ⟨by omega, by omega⟩), (show KeepR K43 H41 k18 d8 (Spec.fullS ((i + 1) - 1).toNat) o52 k44 from (by have h9 := hr45; rw [show (i - 1).toNat + 1 = (i + 1 - 1).toNat by omega] at h9; exact h9)), (show Spec.GoodK (Spec.fullS ((i + 1) - 1).toNat) o52 from (by have h9 := hg49; rw [show (i - 1).toNat + 1 = (i + 1 - 1).toNat by omega] at h9; exact h9)), (show ∀ q, K43 q → K19 q ∨ (H16.next ≤ q ∧ q < H41.next) from (fun q e => (hS55 q e).imp id (fun e => by omega))), (show Fr (fun q => (K19 q ∧ Z01 H16 q)) H16 H41 from (Fr.transG (Fr.trans (Fr.transG (Fr.refl (fun q => (K19 q ∧ Z01 H16 q)) H16) hxl29 (fun q hq hE e => (⟨e.1, Z01.back hE e.2⟩))) (hx38.fr fun _ => False) (fun q hq (e : False) => e.elim)) hx48 (fun q hq hE e => (Or.elim (hD27 q e.1) (fun d => (⟨d, Z01.back hE e.2⟩)) (fun d => absurd hq (by omega))))))⟩ (by simp only; omega)
      ·
       have hb63 := of_decide_eq_false hb63
       exfalso; omega
   ·
    rw [Bool.not_eq_true] at hc32; refine aw_condF hc32 rfl ?_
    try show aw _ _ _ _ _ _
    have hc32 := of_decide_eq_false hc32
    refine aw_exit ?_
    try show aw _ _ _ _ _ _
    refine aw_seq ?_
    refine aw_reg ?_
    refine st_op (ev_move rfl) rfl rfl rfl ?_
    refine st_call rfl rfl rfl ent26 rfl rfl rfl ?_
    obtain ⟨_, H65, hs66, A67, c68, rfl, hm69, hx70⟩ := keepw_State_spec Hl24 k18 d8 K2 (Spec.fullS (i - 1).toNat) oq kq hr26 (by omega)
    refine ⟨_, H65, hs66, ?_⟩
    have H65n : Hl24.next ≤ H65.next := hx70.1
    refine st_op (ev_fieldF fd61_2 rfl rfl) rfl rfl rfl ?_
    refine st_op (ev_lenSl rfl Try.underlying39) rfl rfl rfl ?_
    refine st_op (ev_move rfl) rfl rfl rfl ?_
    obtain ⟨z71, hz72, hz73⟩ : ∃ z, (if 200 < n then 200 else n) = z ∧ (n ≥ z ∧ 200 ≥ z ∧ (z = n ∨ z = 200)) := ⟨_, rfl, by split <;> omega⟩
    refine st_op (ev_minE hz72 rfl rfl) rfl rfl rfl ?_
    refine st_op (ev_int rfl rfl rfl) rfl rfl rfl ?_
    refine st_op (ev_assign rfl) rfl rfl rfl ?_
    try show aw _ _ _ _ _ _
    refine aw_ret ?_
    have hx74 : Ext H H65 := (Ext.trans (Ext.then (Ext.trans (Ext.trans hx3 hx12) hx22) hxl29 (fun q hq e => by (first | omega | (replace e := hD23 _ e.1; omega)))) hx70)
    have hres : true = ((((Spec.fullS (i - 1).toNat).l).length : Int) == z71) := by symm; rw [beq_iff_eq]; show ((Spec.noops (min (i - 1).toNat 200)).length : Int) = _; rw [Spec.noops_len]; omega
    exact ⟨.bool ((((Spec.fullS (i - 1).toNat).l).length : Int) == z71), rfl, by first | (rw [hres]; done) | rw [← hres], hx74⟩

end Go.AM
