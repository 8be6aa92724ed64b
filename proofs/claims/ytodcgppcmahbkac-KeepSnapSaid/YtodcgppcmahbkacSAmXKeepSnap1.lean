/- Part of a machine of its own for this claim: the program's code over memory without draws. -/
import Derived.Test.YtodcgppcmahbkacSAmXKeepB4
set_option linter.unusedVariables false
set_option linter.unusedSimpArgs false
set_option linter.unnecessarySimpa false
set_option linter.unusedVariables false
set_option linter.unusedSimpArgs false
set_option linter.unnecessarySimpa false
namespace Go.AM
open Go Go.Proofs
theorem ent5 : enters Try.prog 5 = true := by kernel_rfl

theorem law_KeepSnap_spec (H : Heap) (n : Int) (hn : -9223372036854775808 ≤ n ∧ n ≤ 9223372036854775807) (p9 : Int) (hp9 : -9223372036854775808 ≤ p9 ∧ p9 ≤ 9223372036854775807) (t9 : Int) (ht9 : -9223372036854775808 ≤ t9 ∧ t9 ≤ 9223372036854775807) : ∃ v H', Spec Try.prog 4 [.int .i64 n, .int .i64 p9, .int .i64 t9] H v H' ∧ ((v = .bool true) ∧ (Ext H H')) := by
 refine spec_go3 E0_ok 138 (f := 4) Try.func4 rfl rfl rfl ?_
 refine aw_seq ?_
 refine aw_reg ?_
 refine st_op (ev_assign rfl) rfl rfl rfl ?_
 refine aw_seq ?_
 refine aw_reg ?_
 refine st_call rfl rfl rfl ent5 rfl rfl rfl ?_
 obtain ⟨_, H2, hs1, hs1v, hx3⟩ := law19_begun_spec H 
 rw [hs1v] at hs1; clear hs1v
 refine ⟨_, H2, hs1, ?_⟩
 have H2n : H.next ≤ H2.next := hx3.1
 refine st_op (ev_assign rfl) rfl rfl rfl ?_
 iterate 2 refine aw_seq ?_
 refine aw_reg ?_
 refine st_op (ev_move rfl) rfl rfl rfl ?_
 refine st_op (ev_not rfl) rfl rfl rfl ?_
 refine aw_cond (t := false) rfl ?_
 refine aw_skip ?_
 iterate 2 refine aw_seq ?_
 refine aw_reg ?_
 refine st_op (ev_move rfl) rfl rfl rfl ?_
 refine st_op (ev_int rfl rfl rfl) rfl rfl rfl ?_
 refine st_op (ev_move rfl) rfl rfl rfl ?_
 refine st_bool 21 rfl (fun hb4 => ?_) (fun hb4 => ?_)
 ·
  have hb4 := of_decide_eq_true hb4
  iterate 2 refine st_skip rfl rfl rfl ?_
  refine st_op (ev_pickT rfl rfl) rfl rfl rfl ?_
  refine st_op (ev_move rfl) rfl rfl rfl ?_
  iterate 2 refine st_skip rfl rfl rfl ?_
  refine st_op (ev_pickT rfl rfl) rfl rfl rfl ?_
  refine st_op (ev_move rfl) rfl rfl rfl ?_
  iterate 2 refine st_skip rfl rfl rfl ?_
  refine st_op (ev_pickT rfl rfl) rfl rfl rfl ?_
  refine st_op (ev_move rfl) rfl rfl rfl ?_
  iterate 2 refine st_skip rfl rfl rfl ?_
  refine st_op (ev_pickT rfl rfl) rfl rfl rfl ?_
  refine st_op (ev_move rfl) rfl rfl rfl ?_
  iterate 2 refine st_skip rfl rfl rfl ?_
  refine st_op (ev_pickT rfl rfl) rfl rfl rfl ?_
  refine aw_cond (t := true) rfl ?_
  refine aw_seq ?_
  refine aw_reg ?_
  refine st_op (ev_assign rfl) rfl rfl rfl ?_
  refine aw_ret ?_
  have hres : true = true := by rfl
  exact ⟨.bool true, rfl, by first | (rw [hres]; done) | rw [← hres], hx3⟩
 ·
  have hb4 := of_decide_eq_false hb4
  refine st_op (ev_move rfl) rfl rfl rfl ?_
  refine st_op (ev_int rfl rfl rfl) rfl rfl rfl ?_
  refine st_op (ev_pickF rfl rfl) rfl rfl rfl ?_
  refine st_op (ev_move rfl) rfl rfl rfl ?_
  refine st_bool 25 rfl (fun hb5 => ?_) (fun hb5 => ?_)
  ·
   have hb5 := of_decide_eq_true hb5
   iterate 2 refine st_skip rfl rfl rfl ?_
   refine st_op (ev_pickT rfl rfl) rfl rfl rfl ?_
   refine st_op (ev_move rfl) rfl rfl rfl ?_
   iterate 2 refine st_skip rfl rfl rfl ?_
   refine st_op (ev_pickT rfl rfl) rfl rfl rfl ?_
   refine st_op (ev_move rfl) rfl rfl rfl ?_
   iterate 2 refine st_skip rfl rfl rfl ?_
   refine st_op (ev_pickT rfl rfl) rfl rfl rfl ?_
   refine st_op (ev_move rfl) rfl rfl rfl ?_
   iterate 2 refine st_skip rfl rfl rfl ?_
   refine st_op (ev_pickT rfl rfl) rfl rfl rfl ?_
   refine aw_cond (t := true) rfl ?_
   refine aw_seq ?_
   refine aw_reg ?_
   refine st_op (ev_assign rfl) rfl rfl rfl ?_
   refine aw_ret ?_
   have hres : true = true := by rfl
   exact ⟨.bool true, rfl, by first | (rw [hres]; done) | rw [← hres], hx3⟩
  ·
   have hb5 := of_decide_eq_false hb5
   refine st_op (ev_move rfl) rfl rfl rfl ?_
   refine st_op (ev_int rfl rfl rfl) rfl rfl rfl ?_
   refine st_op (ev_pickF rfl rfl) rfl rfl rfl ?_
   refine st_op (ev_move rfl) rfl rfl rfl ?_
   refine st_bool 29 rfl (fun hb6 => ?_) (fun hb6 => ?_)
   ·
    have hb6 := of_decide_eq_true hb6
    iterate 2 refine st_skip rfl rfl rfl ?_
    refine st_op (ev_pickT rfl rfl) rfl rfl rfl ?_
    refine st_op (ev_move rfl) rfl rfl rfl ?_
    iterate 2 refine st_skip rfl rfl rfl ?_
    refine st_op (ev_pickT rfl rfl) rfl rfl rfl ?_
    refine st_op (ev_move rfl) rfl rfl rfl ?_
    iterate 2 refine st_skip rfl rfl rfl ?_
    refine st_op (ev_pickT rfl rfl) rfl rfl rfl ?_
    refine aw_cond (t := true) rfl ?_
    refine aw_seq ?_
    refine aw_reg ?_
    refine st_op (ev_assign rfl) rfl rfl rfl ?_
    refine aw_ret ?_
    have hres : true = true := by rfl
    exact ⟨.bool true, rfl, by first | (rw [hres]; done) | rw [← hres], hx3⟩
   ·
    have hb6 := of_decide_eq_false hb6
    refine st_op (ev_move rfl) rfl rfl rfl ?_
    refine st_op (ev_int rfl rfl rfl) rfl rfl rfl ?_
    refine st_op (ev_pickF rfl rfl) rfl rfl rfl ?_
    refine st_op (ev_move rfl) rfl rfl rfl ?_
    refine st_bool 33 rfl (fun hb7 => ?_) (fun hb7 => ?_)
    ·
     have hb7 := of_decide_eq_true hb7
     iterate 2 refine st_skip rfl rfl rfl ?_
     refine st_op (ev_pickT rfl rfl) rfl rfl rfl ?_
     refine st_op (ev_move rfl) rfl rfl rfl ?_
     iterate 2 refine st_skip rfl rfl rfl ?_
     refine st_op (ev_pickT rfl rfl) rfl rfl rfl ?_
     refine aw_cond (t := true) rfl ?_
     refine aw_seq ?_
     refine aw_reg ?_
     refine st_op (ev_assign rfl) rfl rfl rfl ?_
     refine aw_ret ?_
     have hres : true = true := by rfl
     exact ⟨.bool true, rfl, by first | (rw [hres]; done) | rw [← hres], hx3⟩
    ·
     have hb7 := of_decide_eq_false hb7
     refine st_op (ev_move rfl) rfl rfl rfl ?_
     refine st_op (ev_int rfl rfl rfl) rfl rfl rfl ?_
     refine st_op (ev_pickF rfl rfl) rfl rfl rfl ?_
     refine st_op (ev_move rfl) rfl rfl rfl ?_
     refine st_bool 37 rfl (fun hb8 => ?_) (fun hb8 => ?_)
     ·
      have hb8 := of_decide_eq_true hb8
      iterate 2 refine st_skip rfl rfl rfl ?_
      refine st_op (ev_pickT rfl rfl) rfl rfl rfl ?_
      refine aw_cond (t := true) rfl ?_
      refine aw_seq ?_
      refine aw_reg ?_
      refine st_op (ev_assign rfl) rfl rfl rfl ?_
      refine aw_ret ?_
      have hres : true = true := by rfl
      exact ⟨.bool true, rfl, by first | (rw [hres]; done) | rw [← hres], hx3⟩
     ·
      have hb8 := of_decide_eq_false hb8
      refine st_op (ev_move rfl) rfl rfl rfl ?_
      refine st_op (ev_int rfl rfl rfl) rfl rfl rfl ?_
      refine st_op (ev_pickF rfl rfl) rfl rfl rfl ?_
      by_cases hc9 : (decide (t9 > 3)) = true
      ·
       refine aw_condT hc9 rfl ?_
       have hc9 := of_decide_eq_true hc9
       refine aw_seq ?_
       refine aw_reg ?_
       refine st_op (ev_assign rfl) rfl rfl rfl ?_
       refine aw_ret ?_
       have hres : true = true := by rfl
       exact ⟨.bool true, rfl, by first | (rw [hres]; done) | rw [← hres], hx3⟩
      ·
       rw [Bool.not_eq_true] at hc9; refine aw_condF hc9 rfl ?_
       have hc9 := of_decide_eq_false hc9
       refine aw_skip ?_
       refine aw_seq ?_
       refine aw_reg ?_
       refine st_call rfl rfl rfl ent11 rfl rfl rfl ?_
       obtain ⟨_, H10, hs11, d12, D13, rfl, ⟨mb17, ps18, hr19⟩, hD15, hx16⟩ := disk_New_spec H2
       refine ⟨_, H10, hs11, ?_⟩
       have H10n : H2.next ≤ H10.next := hx16.1
       have bd12 := hD15 _ hr19.dp; have bmb17 := hD15 _ hr19.dm
       refine st_op (ev_assign rfl) rfl rfl rfl ?_
       refine aw_seq ?_
       refine aw_reg ?_
       refine st_op (ev_move rfl) rfl rfl rfl ?_
       refine st_call rfl rfl rfl ent12 rfl rfl rfl ?_
       obtain ⟨_, H20, hs21, k22, K23, rfl, hr24, hb25, hx26⟩ := keepw_OpenN_spec H10 d12 D13 0 ⟨_, _, hr19⟩ (by omega)
       refine ⟨_, H20, hs21, ?_⟩
       have H20n : H10.next ≤ H20.next := hx26.1
       have hD27 := fun q e => (hb25 q e).imp (hD15 q) id
       have k22b := hD27 _ hr24.kk
       refine st_op (ev_move rfl) rfl rfl rfl ?_
       iterate 2 refine st_op (ev_extract rfl rfl) rfl rfl rfl ?_
       iterate 2 refine st_op (ev_assign rfl) rfl rfl rfl ?_
       iterate 2 refine aw_seq ?_
       refine aw_reg ?_
       refine st_op (ev_move rfl) rfl rfl rfl ?_
       refine st_op (ev_int rfl rfl rfl) rfl rfl rfl ?_
       refine aw_cond (t := false) rfl ?_
       refine aw_skip ?_
       iterate 2 refine aw_seq ?_
       refine aw_reg ?_
       refine st_op (ev_assign rfl) rfl rfl rfl ?_
       refine aw_block ?_
       refine aw_keep [0, 1, 2, 8, 9, 11] (l' := (.cons 0 (.int .i64 n) (.cons 1 (.int .i64 p9) (.cons 2 (.int .i64 t9) (.cons 8 (.pointer (some ⟨d12, 0, none⟩)) (.cons 9 (.pointer (some ⟨k22, 0, none⟩)) (.cons 11 (.int .i64 1) .nil))))))) (by repeat (first | exact Up.done | refine Up.then ?_ | refine Up.inBlock ?_)) rfl ?_
       refine aw_iter (α := Int × (Option FileS) × Int × (Nat → Prop) × Heap) (fun a => (n + 1 - a.1).toNat) (fun a => (.cons 0 (.int .i64 n) (.cons 1 (.int .i64 p9) (.cons 2 (.int .i64 t9) (.cons 8 (.pointer (some ⟨d12, 0, none⟩)) (.cons 9 (.pointer (some ⟨k22, 0, none⟩)) (.cons 11 (.int .i64 a.1) .nil))))))) (fun a => a.2.2.2.2) (fun a => (a.1 ≤ n + 1) ∧ (a.2.2.1 ≤ 2 * a.1) ∧ (1 ≤ a.1 ∧ a.1 ≤ 21) ∧ (KeepR a.2.2.2.1 a.2.2.2.2 k22 d12 (Spec.eightS (a.1 - 1).toNat) a.2.1 a.2.2.1) ∧ (Spec.GoodK (Spec.eightS (a.1 - 1).toNat) a.2.1) ∧ (∀ q, a.2.2.2.1 q → K23 q ∨ (H20.next ≤ q ∧ q < a.2.2.2.2.next)) ∧ (Fr (fun q => (K23 q ∧ Z01 H20 q)) H20 a.2.2.2.2)) ((1 : Int), none, 0, K23, H20) ⟨(show (1 : Int) ≤ n + 1 from (by omega)), (show 0 ≤ 2 * (1 : Int) from (by omega)), (show 1 ≤ (1 : Int) ∧ (1 : Int) ≤ 21 from ⟨by omega, by omega⟩), (show KeepR K23 H20 k22 d12 (Spec.eightS ((1 : Int) - 1).toNat) none 0 from hr24), (show Spec.GoodK (Spec.eightS ((1 : Int) - 1).toNat) none from Spec.good0), (show ∀ q, K23 q → K23 q ∨ (H20.next ≤ q ∧ q < H20.next) from (fun q e => .inl e)), (show Fr (fun q => (K23 q ∧ Z01 H20 q)) H20 H20 from (Fr.refl _ H20))⟩ ?_
       rintro ⟨i, oq, kq, K2, Hl28⟩ ⟨hi, hk, hn29, hr30, hg32, hD31, hxl33⟩ ih34
       replace hi : i ≤ n + 1 := hi
       replace hk : kq ≤ 2 * i := hk
       replace hn29 : 1 ≤ i ∧ i ≤ 21 := hn29
       replace hr30 : KeepR K2 Hl28 k22 d12 (Spec.eightS (i - 1).toNat) oq kq := hr30
       replace hg32 : Spec.GoodK (Spec.eightS (i - 1).toNat) oq := hg32
       replace hD31 : ∀ q, K2 q → K23 q ∨ (H20.next ≤ q ∧ q < Hl28.next) := hD31
       replace hxl33 : Fr (fun q => (K23 q ∧ Z01 H20 q)) H20 Hl28 := hxl33
       show aw _ _ _ (RL _ (.cons 0 (.int .i64 n) (.cons 1 (.int .i64 p9) (.cons 2 (.int .i64 t9) (.cons 8 (.pointer (some ⟨d12, 0, none⟩)) (.cons 9 (.pointer (some ⟨k22, 0, none⟩)) (.cons 11 (.int .i64 i) .nil))))))) Hl28 _
       have Hl28n : H20.next ≤ Hl28.next := hxl33.1
       have hD35 := fun q e => (hD31 q e).imp (hD27 q) id
       iterate 2 refine aw_seq ?_
       refine aw_reg ?_
       iterate 2 refine st_op (ev_move rfl) rfl rfl rfl ?_
       refine st_op (ev_int rfl rfl rfl) rfl rfl rfl ?_
       by_cases hc36 : (decide (i ≤ n)) = true
       ·
        refine aw_condT hc36 rfl ?_
        have hc36 := of_decide_eq_true hc36
        refine aw_skip ?_
        refine aw_seq ?_
        refine aw_block ?_
        refine aw_seq ?_
        refine aw_reg ?_
        iterate 3 refine st_op (ev_move rfl) rfl rfl rfl ?_
        refine st_op (ev_quoN (a := i) (c := 8) rfl rfl (by omega) (by decide) (wrI64 (by omega) (by omega))) rfl rfl rfl ?_
        refine st_op (ev_int64 (c := 1 + (i / 8)) rfl rfl rfl (by omega) (by omega)) rfl rfl rfl ?_
        refine st_op (ev_build zero42 pl42 (parts := [(0, .int .i64 i), (1, .int .i64 (1 + (i / 8))), (2, .int .i64 1)]) rfl (cs := [.int .i64 i, .int .i64 (1 + (i / 8)), .int .i64 1, .string (⟨#[]⟩)]) rfl) rfl rfl rfl ?_
        obtain ⟨b37, H38, he39, b37e, H38n_, hm41, f40⟩ := mem_lit Hl28 (xs := ([.agg #[.int .i64 i, .int .i64 (1 + (i / 8)), .int .i64 1, .string (⟨#[]⟩)]] : List Value)) (m := 1) (rows := [[.int .i64 i, .int .i64 (1 + (i / 8)), .int .i64 1, .string (⟨#[]⟩)]]) rfl eok33 (by decide) (by decide) zf42 rfl (allLen rfl) rfl
        replace hm41 : My Hl28 H38 (some ⟨b37, 0, none⟩) 1 4 ([(⟨i, 1 + (i / 8), 1, (⟨#[]⟩ : ByteArray)⟩ : Entry)].map Entry.cells) := hm41
        refine st_op (he39 _ _ _ _ _ _ _ _ rfl) rfl rfl rfl ?_
        have hx42 : Ext Hl28 H38 := Ext.new (by omega) H38n_ f40
        have H38n : Hl28.next ≤ H38.next := hx42.1
        refine st_call rfl rfl rfl ent7 rfl rfl rfl ?_
        have h43 := KeepR.ext hr30 hx42
        have hS44 := keepw_Write_spec H38 k22 d12 K2 (Spec.eightS (i - 1).toNat) oq kq h43 (by omega) (some ⟨b37, 0, none⟩) ([(⟨i, 1 + (i / 8), 1, (⟨#[]⟩ : ByteArray)⟩ : Entry)]) 1 (My.row hm41) (My.capF hm41 (by first | omega | (simp only [List.length_append, List.length_cons, List.length_nil, List.length_map, List.length_set, List.length_replicate, Spec.bytesOf_length]; omega) | (simp; omega))) (by first | omega | (simp only [List.length_append, List.length_cons, List.length_nil, List.length_map, List.length_set, List.length_replicate, Spec.bytesOf_length]; omega) | (simp; omega)) (Spec.full_ents (by omega)) (show (⟨#[]⟩ : ByteArray).size ≤ 200 by decide)
        obtain ⟨_, H45, hs46, rfl, K47, k48, hr49, hk50, hb51, hx52⟩ := hS44
        have hg53 : Spec.GoodK (Spec.writeS (Spec.eightS (i - 1).toNat) ([(⟨i, 1 + (i / 8), 1, (⟨#[]⟩ : ByteArray)⟩ : Entry)])) (Spec.writeO (Spec.eightS (i - 1).toNat) oq ([(⟨i, 1 + (i / 8), 1, (⟨#[]⟩ : ByteArray)⟩ : Entry)])) := (Spec.good_write hg32)
        have hz54 := Spec.eight_write (i := (i - 1).toNat) (x := i) (y := 1 + (i / 8)) (by omega) rfl (by omega)
        have hz55 : (Spec.writeS (Spec.eightS (i - 1).toNat) ([(⟨i, 1 + (i / 8), 1, (⟨#[]⟩ : ByteArray)⟩ : Entry)])) = (Spec.eightS ((i - 1).toNat + 1)) := hz54.2
        rw [hz55] at hr49 hg53
        have hz56 : (Spec.writeE (Spec.eightS (i - 1).toNat).si (Spec.eightS (i - 1).toNat).l ([(⟨i, 1 + (i / 8), 1, (⟨#[]⟩ : ByteArray)⟩ : Entry)])) = 0 := hz54.1
        rw [hz56] at hs46
        refine ⟨_, H45, hs46, ?_⟩
        have H45n : H38.next ≤ H45.next := hx52.1
        obtain ⟨o57, ho58⟩ : ∃ o_ : Option FileS, o_ = (Spec.writeO (Spec.eightS (i - 1).toNat) oq ([(⟨i, 1 + (i / 8), 1, (⟨#[]⟩ : ByteArray)⟩ : Entry)])) := ⟨_, rfl⟩
        rw [← ho58] at hr49 hg53
        have k48b : k48 ≤ kq + 2 := hk50
        have hD59 := fun q e => (hb51 q e).imp (hD35 q) id
        have hS60 : ∀ q, K47 q → K23 q ∨ (H20.next ≤ q ∧ q < H45.next) := fun q e => (hb51 q e).elim (fun e => (hD31 q e).imp id (fun e => by omega)) (fun e => .inr (by omega))
        refine st_op (ev_int rfl rfl rfl) rfl rfl rfl ?_
        refine aw_cond (t := false) rfl ?_
        refine aw_skip ?_
        refine aw_reg ?_
        refine st_op (ev_move rfl) rfl rfl rfl ?_
        refine st_op (ev_int64 (c := i + 1) rfl rfl rfl (by omega) (by omega)) rfl rfl rfl ?_
        refine st_op (ev_assign rfl) rfl rfl rfl ?_
        refine aw_keep [0, 1, 2, 8, 9, 11] (l' := (.cons 0 (.int .i64 n) (.cons 1 (.int .i64 p9) (.cons 2 (.int .i64 t9) (.cons 8 (.pointer (some ⟨d12, 0, none⟩)) (.cons 9 (.pointer (some ⟨k22, 0, none⟩)) (.cons 11 (.int .i64 (i + 1)) .nil))))))) (by repeat (first | exact Up.done | refine Up.then ?_ | refine Up.inBlock ?_)) rfl ?_
        exact ih34 (i + 1, o57, k48, K47, H45) ⟨(show (i + 1) ≤ n + 1 from (by omega)), (show k48 ≤ 2 * (i + 1) from (by omega)), (show 1 ≤ (i + 1) ∧ (i + 1) ≤ 21 from ⟨by omega, by omega⟩), (show KeepR K47 H45 k22 d12 (Spec.eightS ((i + 1) - 1).toNat) o57 k48 from (by have h9 := hr49; rw [show (i - 1).toNat + 1 = (i + 1 - 1).toNat by omega] at h9; exact h9)), (show Spec.GoodK (Spec.eightS ((i + 1) - 1).toNat) o57 from (by have h9 := hg53; rw [show (i - 1).toNat + 1 = (i + 1 - 1).toNat by omega] at h9; exact h9)), (show ∀ q, K47 q → K23 q ∨ (H20.next ≤ q ∧ q < H45.next) from (fun q e => (hS60 q e).imp id (fun e => by omega))), (show Fr (fun q => (K23 q ∧ Z01 H20 q)) H20 H45 from (Fr.transG (Fr.trans (Fr.transG (Fr.refl (fun q => (K23 q ∧ Z01 H20 q)) H20) hxl33 (fun q hq hE e => (⟨e.1, Z01.back hE e.2⟩))) (hx42.fr fun _ => False) (fun q hq (e : False) => e.elim)) hx52 (fun q hq hE e => (Or.elim (hD31 q e.1) (fun d => (⟨d, Z01.back hE e.2⟩)) (fun d => absurd hq (by omega))))))⟩ (by simp only; omega)
       ·
        rw [Bool.not_eq_true] at hc36; refine aw_condF hc36 rfl ?_
        have hc36 := of_decide_eq_false hc36
        refine aw_exit ?_
        iterate 2 refine aw_seq ?_
        refine aw_reg ?_
        iterate 3 refine st_op (ev_move rfl) rfl rfl rfl ?_
        refine st_op (ev_build zero32 pl32 (parts := [(0, .int .i64 p9), (1, .int .i64 t9), (2, .string (⟨#[49]⟩))]) rfl (cs := [.int .i64 p9, .int .i64 t9, .string (⟨#[49]⟩), .string (⟨#[]⟩)]) rfl) rfl rfl rfl ?_
        refine st_call rfl rfl rfl ent9 rfl rfl rfl ?_
        have hm70 : Spec.mayS p9 t9 (⟨#[49]⟩ : ByteArray) (⟨#[]⟩ : ByteArray) = true := (by rw [Spec.mayS_eq]; exact decide_eq_true ⟨⟨by omega, by omega⟩, ⟨by omega, by omega⟩, by decide, by decide⟩)
        have hl71 : (Spec.eightS (i - 1).toNat).si ≤ p9 := (show (0 : Int) ≤ _ by omega)
        have hS61 := keepw_SnapOk_spec Hl28 k22 d12 K2 (Spec.eightS (i - 1).toNat) oq kq hr30 (by omega) p9 t9 (⟨#[49]⟩ : ByteArray) (⟨#[]⟩ : ByteArray) hm70 hl71 (by decide)
        obtain ⟨_, H62, hs63, rfl, K64, k65, hr66, hk67, hb68, hx69⟩ := hS61
        have hg72 : Spec.GoodK (Spec.snapS (Spec.eightS (i - 1).toNat) p9 t9 (⟨#[49]⟩ : ByteArray) (⟨#[]⟩ : ByteArray)) (some (Spec.layO (Spec.snapS (Spec.eightS (i - 1).toNat) p9 t9 (⟨#[49]⟩ : ByteArray) (⟨#[]⟩ : ByteArray)))) := (Spec.good_lay (Spec.ok_snap (Spec.GoodK.ok hg32) hm70 hl71))
        have hz73 : (Spec.snapS (Spec.eightS (i - 1).toNat) p9 t9 (⟨#[49]⟩ : ByteArray) (⟨#[]⟩ : ByteArray)) = (⟨0, 0, p9, t9, ⟨#[49]⟩, ⟨#[]⟩, Spec.snapL 0 0 (Spec.eights (i - 1).toNat) p9 t9⟩ : KSt) := rfl
        rw [hz73] at hr66 hg72
        refine ⟨_, H62, hs63, ?_⟩
        have H62n : Hl28.next ≤ H62.next := hx69.1
        obtain ⟨f74, hf75⟩ : ∃ f_ : FileS, f_ = (Spec.layO (⟨0, 0, p9, t9, ⟨#[49]⟩, ⟨#[]⟩, Spec.snapL 0 0 (Spec.eights (i - 1).toNat) p9 t9⟩ : KSt)) := ⟨_, rfl⟩
        rw [← hf75] at hr66 hg72
        have k65b : k65 ≤ kq + 2 := hk67
        have hD76 := fun q e => (hb68 q e).imp (hD35 q) id
        have hS77 : ∀ q, K64 q → K23 q ∨ (H20.next ≤ q ∧ q < H62.next) := fun q e => (hb68 q e).elim (fun e => (hD31 q e).imp id (fun e => by omega)) (fun e => .inr (by omega))
        refine st_op (ev_int rfl rfl rfl) rfl rfl rfl ?_
        refine aw_cond (t := false) rfl ?_
        refine aw_skip ?_
        refine aw_seq ?_
        refine aw_reg ?_
        refine st_op (ev_move rfl) rfl rfl rfl ?_
        refine st_call rfl rfl rfl ent13 rfl rfl rfl ?_
        obtain ⟨D78, mb79, ps80, hr81⟩ := KeepR.disk hr66
        have hS82 := disk_CrashR_spec H62 d12 mb79 D78 (Spec.filesO (some f74)) ps80 k65 hr81 (by omega) (Spec.filesO_len _) 0
        have hc92 : ∀ n, Spec.crashF (Spec.filesO (some f74)) n = Spec.filesO (some f74) := fun n => by rw [hf75]; exact Spec.crash_lay
        rw [hc92 0] at hS82
        obtain ⟨_, H83, hs84, p85, D86, rfl, ⟨mb87, ps88, hr89⟩, hD90, hx91⟩ := hS82
        refine ⟨_, H83, hs84, ?_⟩
        have H83n : H62.next ≤ H83.next := hx91.1
        refine st_call rfl rfl rfl ent12 rfl rfl rfl ?_
        have ho102 := Spec.open_good hg72
        obtain ⟨_, H93, hs94, k95, K96, k97, rfl, hr98, hk99, hb100, hx101⟩ := keepw_OpenY_spec H83 p85 D86 f74 0 ⟨_, _, hr89⟩ (by omega) ho102.1
        rw [ho102.2.1, ho102.2.2] at hr98
        refine ⟨_, H93, hs94, ?_⟩
        have H93n : H83.next ≤ H93.next := hx101.1
        have k97b : k97 ≤ 0 + 1 := hk99
        have hD103 := fun q e => (hb100 q e).imp (hD90 q) id
        have k95b := hD103 _ hr98.kk
        refine st_op (ev_move rfl) rfl rfl rfl ?_
        iterate 2 refine st_op (ev_extract rfl rfl) rfl rfl rfl ?_
        iterate 2 refine st_op (ev_assign rfl) rfl rfl rfl ?_
        iterate 2 refine aw_seq ?_
        refine aw_reg ?_
        refine st_op (ev_move rfl) rfl rfl rfl ?_
        refine st_op (ev_int rfl rfl rfl) rfl rfl rfl ?_
        refine aw_cond (t := false) rfl ?_
        refine aw_skip ?_
        refine aw_seq ?_
        refine aw_reg ?_
        refine st_op (ev_move rfl) rfl rfl rfl ?_
        refine st_call rfl rfl rfl ent10 rfl rfl rfl ?_
        obtain ⟨_, H104, hs105, A106, c107, rfl, hm108, hx109⟩ := keepw_State_spec H93 k95 p85 K96 (⟨0, 0, p9, t9, ⟨#[49]⟩, ⟨#[]⟩, Spec.snapL 0 0 (Spec.eights (i - 1).toNat) p9 t9⟩ : KSt) (some f74) k97 hr98 (by omega)
        refine ⟨_, H104, hs105, ?_⟩
        have H104n : H93.next ≤ H104.next := hx109.1
        obtain ⟨lg, hlg⟩ : ∃ l_, l_ = Spec.snapL 0 0 (Spec.eights (i - 1).toNat) p9 t9 := ⟨_, rfl⟩
        have hlg2 := hlg.trans (Spec.eight_snap (n := (i - 1).toNat) (by omega) (by omega)); have hlg3 := Spec.eight_lens hlg2
        rw [show (⟨0, 0, p9, t9, ⟨#[49]⟩, ⟨#[]⟩, Spec.snapL 0 0 (Spec.eights (i - 1).toNat) p9 t9⟩ : KSt).l = lg from hlg.symm] at hm108 ⊢
        obtain ⟨b110, H111, he112, b110e, H111n_, hB114, f113⟩ := mem_alloc H104 zero35
        refine st_op (he112 _ _ _ _ _ _ _) rfl rfl rfl ?_
        have hx115 : Ext H104 H111 := Ext.new (by omega) H111n_ f113
        have H111n : H104.next ≤ H111.next := hx115.1
        obtain ⟨H116, he117, H116n_, hB118, f119⟩ := mem_store (v := .agg #[.int .i64 ((⟨0, 0, p9, t9, ⟨#[49]⟩, ⟨#[]⟩, Spec.snapL 0 0 (Spec.eights (i - 1).toNat) p9 t9⟩ : KSt).ht), .int .i64 ((⟨0, 0, p9, t9, ⟨#[49]⟩, ⟨#[]⟩, Spec.snapL 0 0 (Spec.eights (i - 1).toNat) p9 t9⟩ : KSt).hv), .int .i64 ((⟨0, 0, p9, t9, ⟨#[49]⟩, ⟨#[]⟩, Spec.snapL 0 0 (Spec.eights (i - 1).toNat) p9 t9⟩ : KSt).si), .int .i64 ((⟨0, 0, p9, t9, ⟨#[49]⟩, ⟨#[]⟩, Spec.snapL 0 0 (Spec.eights (i - 1).toNat) p9 t9⟩ : KSt).st), .string ((⟨0, 0, p9, t9, ⟨#[49]⟩, ⟨#[]⟩, Spec.snapL 0 0 (Spec.eights (i - 1).toNat) p9 t9⟩ : KSt).sc), .string ((⟨0, 0, p9, t9, ⟨#[49]⟩, ⟨#[]⟩, Spec.snapL 0 0 (Spec.eights (i - 1).toNat) p9 t9⟩ : KSt).sd), .slice A106 lg.length c107]) (o := 0) (cs' := [.int .i64 ((⟨0, 0, p9, t9, ⟨#[49]⟩, ⟨#[]⟩, Spec.snapL 0 0 (Spec.eights (i - 1).toNat) p9 t9⟩ : KSt).ht), .int .i64 ((⟨0, 0, p9, t9, ⟨#[49]⟩, ⟨#[]⟩, Spec.snapL 0 0 (Spec.eights (i - 1).toNat) p9 t9⟩ : KSt).hv), .int .i64 ((⟨0, 0, p9, t9, ⟨#[49]⟩, ⟨#[]⟩, Spec.snapL 0 0 (Spec.eights (i - 1).toNat) p9 t9⟩ : KSt).si), .int .i64 ((⟨0, 0, p9, t9, ⟨#[49]⟩, ⟨#[]⟩, Spec.snapL 0 0 (Spec.eights (i - 1).toNat) p9 t9⟩ : KSt).st), .string ((⟨0, 0, p9, t9, ⟨#[49]⟩, ⟨#[]⟩, Spec.snapL 0 0 (Spec.eights (i - 1).toNat) p9 t9⟩ : KSt).sc), .string ((⟨0, 0, p9, t9, ⟨#[49]⟩, ⟨#[]⟩, Spec.snapL 0 0 (Spec.eights (i - 1).toNat) p9 t9⟩ : KSt).sd), .slice A106 lg.length c107]) 7 rfl rfl size35 hB114 rfl rfl rfl
        refine st_op0 (he117 _ _ _ _ _ _ _ _ _ rfl rfl) rfl rfl ?_
        have hf120 : Fr (fun q => q = b110) H111 H116 := Fr.write H116n_ f119
        have H116n : H111.next ≤ H116.next := hf120.1
        refine aw_seq ?_
        refine aw_reg ?_
        refine st_op (ev_move rfl) rfl rfl rfl ?_
        refine st_op (ev_int rfl rfl rfl) rfl rfl rfl ?_
        refine st_op (ev_move rfl) rfl rfl rfl ?_
        refine st_bool 81 rfl (fun hb121 => ?_) (fun hb121 => ?_)
        ·
         have hb121 := eq_of_beq hb121
         refine st_op (ev_move rfl) rfl rfl rfl ?_
         refine st_op (ev_int rfl rfl rfl) rfl rfl rfl ?_
         refine st_op (ev_pickT rfl rfl) rfl rfl rfl ?_
         refine st_op (ev_move rfl) rfl rfl rfl ?_
         refine st_bool 85 rfl (fun hb122 => ?_) (fun hb122 => ?_)
         ·
          have hb122 := eq_of_beq hb122
          iterate 14 refine st_skip rfl rfl rfl ?_
          refine st_op (ev_pickT rfl rfl) rfl rfl rfl ?_
          refine st_op (ev_assign rfl) rfl rfl rfl ?_
          refine aw_seq ?_
          refine aw_reg ?_
          refine st_op (ev_assign rfl) rfl rfl rfl ?_
          iterate 2 refine aw_seq ?_
          refine aw_reg ?_
          refine st_op (ev_move rfl) rfl rfl rfl ?_
          refine aw_cond (t := true) rfl ?_
          refine aw_reg ?_
          iterate 2 refine st_op (ev_move rfl) rfl rfl rfl ?_
          refine st_op (ev_int64 (c := n - p9) rfl rfl rfl (by omega) (by omega)) rfl rfl rfl ?_
          refine st_op (ev_assign rfl) rfl rfl rfl ?_
          refine aw_seq ?_
          refine aw_reg ?_
          refine st_op (ev_fieldAddr rfl fa35_1 (o' := 2) rfl) rfl rfl rfl ?_
          refine st_op (ev_fieldAddr rfl fa32_0 (o' := 2) rfl) rfl rfl rfl ?_
          refine st_op (ev_load rfl (lvar_one one2 hB118 rfl)) rfl rfl rfl ?_
          refine st_op (ev_move rfl) rfl rfl rfl ?_
          refine st_op (ev_int rfl rfl rfl) rfl rfl rfl ?_
          refine st_op (ev_move rfl) rfl rfl rfl ?_
          refine st_bool 110 rfl (fun hb123 => ?_) (fun hb123 => ?_)
          ·
           have hb123 := eq_of_beq hb123
           refine st_op (ev_fieldAddr rfl fa35_1 (o' := 2) rfl) rfl rfl rfl ?_
           refine st_op (ev_fieldAddr rfl fa32_1 (o' := 3) rfl) rfl rfl rfl ?_
           refine st_op (ev_load rfl (lvar_one one2 hB118 rfl)) rfl rfl rfl ?_
           refine st_op (ev_move rfl) rfl rfl rfl ?_
           refine st_op (ev_int rfl rfl rfl) rfl rfl rfl ?_
           refine st_op (ev_pickT rfl rfl) rfl rfl rfl ?_
           refine st_op (ev_move rfl) rfl rfl rfl ?_
           refine st_bool 117 rfl (fun hb124 => ?_) (fun hb124 => ?_)
           ·
            have hb124 := eq_of_beq hb124
            refine st_op (ev_fieldAddr rfl fa35_2 (o' := 6) rfl) rfl rfl rfl ?_
            refine st_op (ev_load rfl (lvar_one one33 hB118 rfl)) rfl rfl rfl ?_
            refine st_op (ev_lenSl rfl Try.underlying33) rfl rfl rfl ?_
            refine st_op (ev_move rfl) rfl rfl rfl ?_
            refine st_op (ev_int rfl rfl rfl) rfl rfl rfl ?_
            refine st_op (ev_pickT rfl rfl) rfl rfl rfl ?_
            refine st_op (ev_move rfl) rfl rfl rfl ?_
            refine st_bool 124 rfl (fun hb125 => ?_) (fun hb125 => ?_)
            ·
             have hb125 := eq_of_beq hb125
             refine st_op (ev_move rfl) rfl rfl rfl ?_
             refine st_op (ev_int rfl rfl rfl) rfl rfl rfl ?_
             refine st_op (ev_move rfl) rfl rfl rfl ?_
             refine st_bool 127 rfl (fun hb126 => ?_) (fun hb126 => ?_)
             ·
              have hb126 := eq_of_beq hb126
              iterate 8 refine st_skip rfl rfl rfl ?_
              iterate 2 refine st_op (ev_pickT rfl rfl) rfl rfl rfl ?_
              refine st_op (ev_assign rfl) rfl rfl rfl ?_
              refine aw_ret ?_
              have hx127 : Ext H H116 := (Ext.then (Ext.trans (Ext.trans (Ext.then (Ext.trans (Ext.then (Ext.then (Ext.trans (Ext.trans hx3 hx16) hx26) hxl33 (fun q hq e => by (first | omega | (replace e := hD27 _ e.1; omega)))) hx69 (fun q hq e => by (first | omega | (replace e := hD35 _ e.1; omega)))) hx91) hx101 (fun q hq e => by (first | omega | (replace e := hD90 _ e.1; omega)))) hx109) hx115) hf120 (fun q hq e => by omega))
              have hres : true = true := by rfl
              exact ⟨.bool true, rfl, by first | (rw [hres]; done) | rw [← hres], hx127⟩
             ·
              have hb126 := ne_of_beq_false hb126
              refine st_op (ev_fieldAddr rfl fa35_2 (o' := 6) rfl) rfl rfl rfl ?_
              refine st_op (ev_load rfl (lvar_one one33 hB118 rfl)) rfl rfl rfl ?_
              have hx129 : Ext H104 H116 := (Ext.then hx115 hf120 (fun q hq e => by omega))
              have h128 := My.ext hm108 hx129
              have hi130 : 0 ≤ (0 : Int) := by omega
              have hi131 : (0 : Int) < ((lg.length : Nat) : Int) := by omega
              obtain ⟨x132, hx133⟩ : ∃ e, lg[0]? = some e := ⟨_, List.getElem?_eq_getElem (by omega)⟩
              refine st_op (ev_at rfl rfl (My.row h128) (getMap Entry.cells hx133) (by first | rfl | omega | simp) hi130 hi131 el33) rfl rfl rfl ?_
              refine st_op (ev_atF rfl (My.row h128) (getMap Entry.cells hx133) fa42_0 rfl) rfl rfl rfl ?_
              refine st_op (ev_atL rfl (My.row h128) (getMap Entry.cells hx133) one2 rfl) rfl rfl rfl ?_
              refine st_op (ev_move rfl) rfl rfl rfl ?_
              refine st_op (ev_int64 (c := p9 + 1) rfl rfl rfl (by omega) (by omega)) rfl rfl rfl ?_
              refine st_op (ev_int rfl rfl rfl) rfl rfl rfl ?_
              refine st_op (ev_pickF rfl rfl) rfl rfl rfl ?_
              refine st_op (ev_pickT rfl rfl) rfl rfl rfl ?_
              refine st_op (ev_assign rfl) rfl rfl rfl ?_
              refine aw_ret ?_
              have hx134 : Ext H H116 := (Ext.then (Ext.trans (Ext.trans (Ext.then (Ext.trans (Ext.then (Ext.then (Ext.trans (Ext.trans hx3 hx16) hx26) hxl33 (fun q hq e => by (first | omega | (replace e := hD27 _ e.1; omega)))) hx69 (fun q hq e => by (first | omega | (replace e := hD35 _ e.1; omega)))) hx91) hx101 (fun q hq e => by (first | omega | (replace e := hD90 _ e.1; omega)))) hx109) hx115) hf120 (fun q hq e => by omega))
              have hres : true = (x132.index == p9 + 1) := by symm; rw [beq_iff_eq]; exact Spec.eight_idx (by omega) hlg2 hx133
              exact ⟨.bool (x132.index == p9 + 1), rfl, by first | (rw [hres]; done) | rw [← hres], hx134⟩
            ·
             have hb125 := ne_of_beq_false hb125
             exfalso; omega
           ·
            have hb124 := ne_of_beq_false hb124
            exact absurd rfl hb124
          ·
           have hb123 := ne_of_beq_false hb123
           exact absurd rfl hb123
         ·
          have hb122 := ne_of_beq_false hb122
          refine st_op (ev_move rfl) rfl rfl rfl ?_
          refine st_op (ev_int rfl rfl rfl) rfl rfl rfl ?_
          refine st_op (ev_move rfl) rfl rfl rfl ?_
          refine st_bool 88 rfl (fun hb135 => ?_) (fun hb135 => ?_)
          ·
           have hb135 := of_decide_eq_true hb135
           exfalso; omega
          ·
           have hb135 := of_decide_eq_false hb135
           iterate 3 refine st_skip rfl rfl rfl ?_
           refine st_op (ev_pickF rfl rfl) rfl rfl rfl ?_
           refine st_op (ev_move rfl) rfl rfl rfl ?_
           iterate 5 refine st_skip rfl rfl rfl ?_
           iterate 2 refine st_op (ev_pickF rfl rfl) rfl rfl rfl ?_
           refine st_op (ev_assign rfl) rfl rfl rfl ?_
           refine aw_seq ?_
           refine aw_reg ?_
           refine st_op (ev_assign rfl) rfl rfl rfl ?_
           iterate 2 refine aw_seq ?_
           refine aw_reg ?_
           refine st_op (ev_move rfl) rfl rfl rfl ?_
           refine aw_cond (t := false) rfl ?_
           refine aw_skip ?_
           refine aw_seq ?_
           refine aw_reg ?_
           refine st_op (ev_fieldAddr rfl fa35_1 (o' := 2) rfl) rfl rfl rfl ?_
           refine st_op (ev_fieldAddr rfl fa32_0 (o' := 2) rfl) rfl rfl rfl ?_
           refine st_op (ev_load rfl (lvar_one one2 hB118 rfl)) rfl rfl rfl ?_
           refine st_op (ev_move rfl) rfl rfl rfl ?_
           refine st_op (ev_int rfl rfl rfl) rfl rfl rfl ?_
           refine st_op (ev_move rfl) rfl rfl rfl ?_
           refine st_bool 110 rfl (fun hb136 => ?_) (fun hb136 => ?_)
           ·
            have hb136 := eq_of_beq hb136
            refine st_op (ev_fieldAddr rfl fa35_1 (o' := 2) rfl) rfl rfl rfl ?_
            refine st_op (ev_fieldAddr rfl fa32_1 (o' := 3) rfl) rfl rfl rfl ?_
            refine st_op (ev_load rfl (lvar_one one2 hB118 rfl)) rfl rfl rfl ?_
            refine st_op (ev_move rfl) rfl rfl rfl ?_
            refine st_op (ev_int rfl rfl rfl) rfl rfl rfl ?_
            refine st_op (ev_pickT rfl rfl) rfl rfl rfl ?_
            refine st_op (ev_move rfl) rfl rfl rfl ?_
            refine st_bool 117 rfl (fun hb137 => ?_) (fun hb137 => ?_)
            ·
             have hb137 := eq_of_beq hb137
             refine st_op (ev_fieldAddr rfl fa35_2 (o' := 6) rfl) rfl rfl rfl ?_
             refine st_op (ev_load rfl (lvar_one one33 hB118 rfl)) rfl rfl rfl ?_
             refine st_op (ev_lenSl rfl Try.underlying33) rfl rfl rfl ?_
             refine st_op (ev_move rfl) rfl rfl rfl ?_
             refine st_op (ev_int rfl rfl rfl) rfl rfl rfl ?_
             refine st_op (ev_pickT rfl rfl) rfl rfl rfl ?_
             refine st_op (ev_move rfl) rfl rfl rfl ?_
             refine st_bool 124 rfl (fun hb138 => ?_) (fun hb138 => ?_)
             ·
              have hb138 := eq_of_beq hb138
              refine st_op (ev_move rfl) rfl rfl rfl ?_
              refine st_op (ev_int rfl rfl rfl) rfl rfl rfl ?_
              refine st_op (ev_move rfl) rfl rfl rfl ?_
              iterate 8 refine st_skip rfl rfl rfl ?_
              iterate 2 refine st_op (ev_pickT rfl rfl) rfl rfl rfl ?_
              refine st_op (ev_assign rfl) rfl rfl rfl ?_
              refine aw_ret ?_
              have hx139 : Ext H H116 := (Ext.then (Ext.trans (Ext.trans (Ext.then (Ext.trans (Ext.then (Ext.then (Ext.trans (Ext.trans hx3 hx16) hx26) hxl33 (fun q hq e => by (first | omega | (replace e := hD27 _ e.1; omega)))) hx69 (fun q hq e => by (first | omega | (replace e := hD35 _ e.1; omega)))) hx91) hx101 (fun q hq e => by (first | omega | (replace e := hD90 _ e.1; omega)))) hx109) hx115) hf120 (fun q hq e => by omega))
              have hres : true = true := by rfl
              exact ⟨.bool true, rfl, by first | (rw [hres]; done) | rw [← hres], hx139⟩
             ·
              have hb138 := ne_of_beq_false hb138
              exfalso; omega
            ·
             have hb137 := ne_of_beq_false hb137
             exact absurd rfl hb137
           ·
            have hb136 := ne_of_beq_false hb136
            exact absurd rfl hb136
        ·
         have hb121 := ne_of_beq_false hb121
         iterate 2 refine st_skip rfl rfl rfl ?_
         refine st_op (ev_pickF rfl rfl) rfl rfl rfl ?_
         iterate 2 refine st_op (ev_move rfl) rfl rfl rfl ?_
         refine st_op (ev_int rfl rfl rfl) rfl rfl rfl ?_
         refine st_op (ev_move rfl) rfl rfl rfl ?_
         refine st_bool 88 rfl (fun hb140 => ?_) (fun hb140 => ?_)
         ·
          have hb140 := of_decide_eq_true hb140
          iterate 2 refine st_op (ev_move rfl) rfl rfl rfl ?_
          refine st_op (ev_int rfl rfl rfl) rfl rfl rfl ?_
          refine st_op (ev_pickT rfl rfl) rfl rfl rfl ?_
          refine st_op (ev_move rfl) rfl rfl rfl ?_
          refine st_bool 93 rfl (fun hb141 => ?_) (fun hb141 => ?_)
          ·
           have hb141 := of_decide_eq_true hb141
           iterate 2 refine st_op (ev_move rfl) rfl rfl rfl ?_
           refine st_op (ev_quoN (a := p9) (c := 8) rfl rfl (by omega) (by decide) (wrI64 (by omega) (by omega))) rfl rfl rfl ?_
           refine st_op (ev_int64 (c := 1 + (p9 / 8)) rfl rfl rfl (by omega) (by omega)) rfl rfl rfl ?_
           refine st_op (ev_int rfl rfl rfl) rfl rfl rfl ?_
           refine st_op (ev_pickT rfl rfl) rfl rfl rfl ?_
           refine st_op (ev_pickF rfl rfl) rfl rfl rfl ?_
           refine st_op (ev_assign rfl) rfl rfl rfl ?_
           refine aw_seq ?_
           refine aw_reg ?_
           refine st_op (ev_assign rfl) rfl rfl rfl ?_
           iterate 2 refine aw_seq ?_
           refine aw_reg ?_
           refine st_op (ev_move rfl) rfl rfl rfl ?_
           by_cases hc142 : (t9 == 1 + (p9 / 8)) = true
           ·
            refine aw_condT hc142 rfl ?_
            have hc142 := eq_of_beq hc142
            refine aw_reg ?_
            iterate 2 refine st_op (ev_move rfl) rfl rfl rfl ?_
            refine st_op (ev_int64 (c := n - p9) rfl rfl rfl (by omega) (by omega)) rfl rfl rfl ?_
            refine st_op (ev_assign rfl) rfl rfl rfl ?_
            refine aw_seq ?_
            refine aw_reg ?_
            refine st_op (ev_fieldAddr rfl fa35_1 (o' := 2) rfl) rfl rfl rfl ?_
            refine st_op (ev_fieldAddr rfl fa32_0 (o' := 2) rfl) rfl rfl rfl ?_
            refine st_op (ev_load rfl (lvar_one one2 hB118 rfl)) rfl rfl rfl ?_
            refine st_op (ev_move rfl) rfl rfl rfl ?_
            refine st_op (ev_int rfl rfl rfl) rfl rfl rfl ?_
            refine st_op (ev_move rfl) rfl rfl rfl ?_
            refine st_bool 110 rfl (fun hb143 => ?_) (fun hb143 => ?_)
            ·
             have hb143 := eq_of_beq hb143
             refine st_op (ev_fieldAddr rfl fa35_1 (o' := 2) rfl) rfl rfl rfl ?_
             refine st_op (ev_fieldAddr rfl fa32_1 (o' := 3) rfl) rfl rfl rfl ?_
             refine st_op (ev_load rfl (lvar_one one2 hB118 rfl)) rfl rfl rfl ?_
             refine st_op (ev_move rfl) rfl rfl rfl ?_
             refine st_op (ev_int rfl rfl rfl) rfl rfl rfl ?_
             refine st_op (ev_pickT rfl rfl) rfl rfl rfl ?_
             refine st_op (ev_move rfl) rfl rfl rfl ?_
             refine st_bool 117 rfl (fun hb144 => ?_) (fun hb144 => ?_)
             ·
              have hb144 := eq_of_beq hb144
              refine st_op (ev_fieldAddr rfl fa35_2 (o' := 6) rfl) rfl rfl rfl ?_
              refine st_op (ev_load rfl (lvar_one one33 hB118 rfl)) rfl rfl rfl ?_
              refine st_op (ev_lenSl rfl Try.underlying33) rfl rfl rfl ?_
              refine st_op (ev_move rfl) rfl rfl rfl ?_
              refine st_op (ev_int rfl rfl rfl) rfl rfl rfl ?_
              refine st_op (ev_pickT rfl rfl) rfl rfl rfl ?_
              refine st_op (ev_move rfl) rfl rfl rfl ?_
              refine st_bool 124 rfl (fun hb145 => ?_) (fun hb145 => ?_)
              ·
               have hb145 := eq_of_beq hb145
               refine st_op (ev_move rfl) rfl rfl rfl ?_
               refine st_op (ev_int rfl rfl rfl) rfl rfl rfl ?_
               refine st_op (ev_move rfl) rfl rfl rfl ?_
               refine st_bool 127 rfl (fun hb146 => ?_) (fun hb146 => ?_)
               ·
                have hb146 := eq_of_beq hb146
                iterate 8 refine st_skip rfl rfl rfl ?_
                iterate 2 refine st_op (ev_pickT rfl rfl) rfl rfl rfl ?_
                refine st_op (ev_assign rfl) rfl rfl rfl ?_
                refine aw_ret ?_
                have hx147 : Ext H H116 := (Ext.then (Ext.trans (Ext.trans (Ext.then (Ext.trans (Ext.then (Ext.then (Ext.trans (Ext.trans hx3 hx16) hx26) hxl33 (fun q hq e => by (first | omega | (replace e := hD27 _ e.1; omega)))) hx69 (fun q hq e => by (first | omega | (replace e := hD35 _ e.1; omega)))) hx91) hx101 (fun q hq e => by (first | omega | (replace e := hD90 _ e.1; omega)))) hx109) hx115) hf120 (fun q hq e => by omega))
                have hres : true = true := by rfl
                exact ⟨.bool true, rfl, by first | (rw [hres]; done) | rw [← hres], hx147⟩
               ·
                have hb146 := ne_of_beq_false hb146
                refine st_op (ev_fieldAddr rfl fa35_2 (o' := 6) rfl) rfl rfl rfl ?_
                refine st_op (ev_load rfl (lvar_one one33 hB118 rfl)) rfl rfl rfl ?_
                have hx149 : Ext H104 H116 := (Ext.then hx115 hf120 (fun q hq e => by omega))
                have h148 := My.ext hm108 hx149
                have hi150 : 0 ≤ (0 : Int) := by omega
                have hi151 : (0 : Int) < ((lg.length : Nat) : Int) := by omega
                obtain ⟨x152, hx153⟩ : ∃ e, lg[0]? = some e := ⟨_, List.getElem?_eq_getElem (by omega)⟩
                refine st_op (ev_at rfl rfl (My.row h148) (getMap Entry.cells hx153) (by first | rfl | omega | simp) hi150 hi151 el33) rfl rfl rfl ?_
                refine st_op (ev_atF rfl (My.row h148) (getMap Entry.cells hx153) fa42_0 rfl) rfl rfl rfl ?_
                refine st_op (ev_atL rfl (My.row h148) (getMap Entry.cells hx153) one2 rfl) rfl rfl rfl ?_
                refine st_op (ev_move rfl) rfl rfl rfl ?_
                refine st_op (ev_int64 (c := p9 + 1) rfl rfl rfl (by omega) (by omega)) rfl rfl rfl ?_
                refine st_op (ev_int rfl rfl rfl) rfl rfl rfl ?_
                refine st_op (ev_pickF rfl rfl) rfl rfl rfl ?_
                refine st_op (ev_pickT rfl rfl) rfl rfl rfl ?_
                refine st_op (ev_assign rfl) rfl rfl rfl ?_
                refine aw_ret ?_
                have hx154 : Ext H H116 := (Ext.then (Ext.trans (Ext.trans (Ext.then (Ext.trans (Ext.then (Ext.then (Ext.trans (Ext.trans hx3 hx16) hx26) hxl33 (fun q hq e => by (first | omega | (replace e := hD27 _ e.1; omega)))) hx69 (fun q hq e => by (first | omega | (replace e := hD35 _ e.1; omega)))) hx91) hx101 (fun q hq e => by (first | omega | (replace e := hD90 _ e.1; omega)))) hx109) hx115) hf120 (fun q hq e => by omega))
                have hres : true = (x152.index == p9 + 1) := by symm; rw [beq_iff_eq]; exact Spec.eight_idx (by omega) hlg2 hx153
                exact ⟨.bool (x152.index == p9 + 1), rfl, by first | (rw [hres]; done) | rw [← hres], hx154⟩
              ·
               have hb145 := ne_of_beq_false hb145
               exfalso; omega
             ·
              have hb144 := ne_of_beq_false hb144
              exact absurd rfl hb144
            ·
             have hb143 := ne_of_beq_false hb143
             exact absurd rfl hb143
           ·
            rw [Bool.not_eq_true] at hc142; refine aw_condF hc142 rfl ?_
            have hc142 := ne_of_beq_false hc142
            refine aw_skip ?_
            refine aw_seq ?_
            refine aw_reg ?_
            refine st_op (ev_fieldAddr rfl fa35_1 (o' := 2) rfl) rfl rfl rfl ?_
            refine st_op (ev_fieldAddr rfl fa32_0 (o' := 2) rfl) rfl rfl rfl ?_
            refine st_op (ev_load rfl (lvar_one one2 hB118 rfl)) rfl rfl rfl ?_
            refine st_op (ev_move rfl) rfl rfl rfl ?_
            refine st_op (ev_int rfl rfl rfl) rfl rfl rfl ?_
            refine st_op (ev_move rfl) rfl rfl rfl ?_
            refine st_bool 110 rfl (fun hb155 => ?_) (fun hb155 => ?_)
            ·
             have hb155 := eq_of_beq hb155
             refine st_op (ev_fieldAddr rfl fa35_1 (o' := 2) rfl) rfl rfl rfl ?_
             refine st_op (ev_fieldAddr rfl fa32_1 (o' := 3) rfl) rfl rfl rfl ?_
             refine st_op (ev_load rfl (lvar_one one2 hB118 rfl)) rfl rfl rfl ?_
             refine st_op (ev_move rfl) rfl rfl rfl ?_
             refine st_op (ev_int rfl rfl rfl) rfl rfl rfl ?_
             refine st_op (ev_pickT rfl rfl) rfl rfl rfl ?_
             refine st_op (ev_move rfl) rfl rfl rfl ?_
             refine st_bool 117 rfl (fun hb156 => ?_) (fun hb156 => ?_)
             ·
              have hb156 := eq_of_beq hb156
              refine st_op (ev_fieldAddr rfl fa35_2 (o' := 6) rfl) rfl rfl rfl ?_
              refine st_op (ev_load rfl (lvar_one one33 hB118 rfl)) rfl rfl rfl ?_
              refine st_op (ev_lenSl rfl Try.underlying33) rfl rfl rfl ?_
              refine st_op (ev_move rfl) rfl rfl rfl ?_
              refine st_op (ev_int rfl rfl rfl) rfl rfl rfl ?_
              refine st_op (ev_pickT rfl rfl) rfl rfl rfl ?_
              refine st_op (ev_move rfl) rfl rfl rfl ?_
              refine st_bool 124 rfl (fun hb157 => ?_) (fun hb157 => ?_)
              ·
               have hb157 := eq_of_beq hb157
               refine st_op (ev_move rfl) rfl rfl rfl ?_
               refine st_op (ev_int rfl rfl rfl) rfl rfl rfl ?_
               refine st_op (ev_move rfl) rfl rfl rfl ?_
               iterate 8 refine st_skip rfl rfl rfl ?_
               iterate 2 refine st_op (ev_pickT rfl rfl) rfl rfl rfl ?_
               refine st_op (ev_assign rfl) rfl rfl rfl ?_
               refine aw_ret ?_
               have hx158 : Ext H H116 := (Ext.then (Ext.trans (Ext.trans (Ext.then (Ext.trans (Ext.then (Ext.then (Ext.trans (Ext.trans hx3 hx16) hx26) hxl33 (fun q hq e => by (first | omega | (replace e := hD27 _ e.1; omega)))) hx69 (fun q hq e => by (first | omega | (replace e := hD35 _ e.1; omega)))) hx91) hx101 (fun q hq e => by (first | omega | (replace e := hD90 _ e.1; omega)))) hx109) hx115) hf120 (fun q hq e => by omega))
               have hres : true = true := by rfl
               exact ⟨.bool true, rfl, by first | (rw [hres]; done) | rw [← hres], hx158⟩
              ·
               have hb157 := ne_of_beq_false hb157
               exfalso; omega
             ·
              have hb156 := ne_of_beq_false hb156
              exact absurd rfl hb156
            ·
             have hb155 := ne_of_beq_false hb155
             exact absurd rfl hb155
          ·
           have hb141 := of_decide_eq_false hb141
           iterate 5 refine st_skip rfl rfl rfl ?_
           iterate 2 refine st_op (ev_pickF rfl rfl) rfl rfl rfl ?_
           refine st_op (ev_assign rfl) rfl rfl rfl ?_
           refine aw_seq ?_
           refine aw_reg ?_
           refine st_op (ev_assign rfl) rfl rfl rfl ?_
           iterate 2 refine aw_seq ?_
           refine aw_reg ?_
           refine st_op (ev_move rfl) rfl rfl rfl ?_
           refine aw_cond (t := false) rfl ?_
           refine aw_skip ?_
           refine aw_seq ?_
           refine aw_reg ?_
           refine st_op (ev_fieldAddr rfl fa35_1 (o' := 2) rfl) rfl rfl rfl ?_
           refine st_op (ev_fieldAddr rfl fa32_0 (o' := 2) rfl) rfl rfl rfl ?_
           refine st_op (ev_load rfl (lvar_one one2 hB118 rfl)) rfl rfl rfl ?_
           refine st_op (ev_move rfl) rfl rfl rfl ?_
           refine st_op (ev_int rfl rfl rfl) rfl rfl rfl ?_
           refine st_op (ev_move rfl) rfl rfl rfl ?_
           refine st_bool 110 rfl (fun hb159 => ?_) (fun hb159 => ?_)
           ·
            have hb159 := eq_of_beq hb159
            refine st_op (ev_fieldAddr rfl fa35_1 (o' := 2) rfl) rfl rfl rfl ?_
            refine st_op (ev_fieldAddr rfl fa32_1 (o' := 3) rfl) rfl rfl rfl ?_
            refine st_op (ev_load rfl (lvar_one one2 hB118 rfl)) rfl rfl rfl ?_
            refine st_op (ev_move rfl) rfl rfl rfl ?_
            refine st_op (ev_int rfl rfl rfl) rfl rfl rfl ?_
            refine st_op (ev_pickT rfl rfl) rfl rfl rfl ?_
            refine st_op (ev_move rfl) rfl rfl rfl ?_
            refine st_bool 117 rfl (fun hb160 => ?_) (fun hb160 => ?_)
            ·
             have hb160 := eq_of_beq hb160
             refine st_op (ev_fieldAddr rfl fa35_2 (o' := 6) rfl) rfl rfl rfl ?_
             refine st_op (ev_load rfl (lvar_one one33 hB118 rfl)) rfl rfl rfl ?_
             refine st_op (ev_lenSl rfl Try.underlying33) rfl rfl rfl ?_
             refine st_op (ev_move rfl) rfl rfl rfl ?_
             refine st_op (ev_int rfl rfl rfl) rfl rfl rfl ?_
             refine st_op (ev_pickT rfl rfl) rfl rfl rfl ?_
             refine st_op (ev_move rfl) rfl rfl rfl ?_
             refine st_bool 124 rfl (fun hb161 => ?_) (fun hb161 => ?_)
             ·
              have hb161 := eq_of_beq hb161
              refine st_op (ev_move rfl) rfl rfl rfl ?_
              refine st_op (ev_int rfl rfl rfl) rfl rfl rfl ?_
              refine st_op (ev_move rfl) rfl rfl rfl ?_
              iterate 8 refine st_skip rfl rfl rfl ?_
              iterate 2 refine st_op (ev_pickT rfl rfl) rfl rfl rfl ?_
              refine st_op (ev_assign rfl) rfl rfl rfl ?_
              refine aw_ret ?_
              have hx162 : Ext H H116 := (Ext.then (Ext.trans (Ext.trans (Ext.then (Ext.trans (Ext.then (Ext.then (Ext.trans (Ext.trans hx3 hx16) hx26) hxl33 (fun q hq e => by (first | omega | (replace e := hD27 _ e.1; omega)))) hx69 (fun q hq e => by (first | omega | (replace e := hD35 _ e.1; omega)))) hx91) hx101 (fun q hq e => by (first | omega | (replace e := hD90 _ e.1; omega)))) hx109) hx115) hf120 (fun q hq e => by omega))
              have hres : true = true := by rfl
              exact ⟨.bool true, rfl, by first | (rw [hres]; done) | rw [← hres], hx162⟩
             ·
              have hb161 := ne_of_beq_false hb161
              exfalso; omega
            ·
             have hb160 := ne_of_beq_false hb160
             exact absurd rfl hb160
           ·
            have hb159 := ne_of_beq_false hb159
            exact absurd rfl hb159
         ·
          have hb140 := of_decide_eq_false hb140
          exfalso; omega

end Go.AM
