/- Part of a machine of its own for this claim: the program's code over memory without draws. -/
import Derived.Test.YtodcgppcmahbkaaSAmXDiskC1
set_option linter.unusedVariables false
set_option linter.unusedSimpArgs false
set_option linter.unnecessarySimpa false
set_option linter.unusedVariables false
set_option linter.unusedSimpArgs false
set_option linter.unnecessarySimpa false
namespace Go.AM
open Go Go.Proofs
theorem el47 : elemIs Try.prog 47 1 = true := by kernel_rfl
theorem ent9 : enters Try.prog 9 = true := by kernel_rfl
theorem zero5 : ZeroIs Try.prog 5 [.int .u8 0] := ⟨.int .u8 0, by kernel_rfl, rfl, rfl, rfl⟩

theorem law_DiskFull_spec (H : Heap) (partsA : Option Addr) (parts : List Int) (partsc : Nat) (hparts : Row H partsA partsc 1 (parts.map i64c)) (cparts : parts.length ≤ partsc) (lparts : parts.length ≤ 140737488355328) (bparts : Spec.Ints parts) : ∃ v H', Spec Try.prog 5 [.slice partsA parts.length partsc] H v H' ∧ ((v = .bool true) ∧ (Ext H H')) := by
 refine spec_go1 E0_ok 78 (f := 5) Try.func5 rfl rfl rfl ?_
 refine aw_seq ?_
 refine aw_reg ?_
 refine st_op (ev_assign rfl) rfl rfl rfl ?_
 try show aw _ _ _ _ _ _
 refine aw_seq ?_
 refine aw_reg ?_
 refine st_call rfl rfl rfl ent9 rfl rfl rfl ?_
 obtain ⟨_, H2, hs1, hs1v, hx3⟩ := law17_begun_spec H 
 rw [hs1v] at hs1; clear hs1v
 refine ⟨_, H2, hs1, ?_⟩
 have H2n : H.next ≤ H2.next := hx3.1
 refine st_op (ev_assign rfl) rfl rfl rfl ?_
 try show aw _ _ _ _ _ _
 iterate 2 refine aw_seq ?_
 refine aw_reg ?_
 refine st_op (ev_move rfl) rfl rfl rfl ?_
 refine st_op (ev_not rfl) rfl rfl rfl ?_
 try show aw _ _ _ _ _ _
 refine aw_cond (t := false) rfl ?_
 try show aw _ _ _ _ _ _
 refine aw_skip ?_
 try show aw _ _ _ _ _ _
 refine aw_seq ?_
 refine aw_reg ?_
 refine st_call rfl rfl rfl ent10 rfl rfl rfl ?_
 obtain ⟨_, H4, hs5, d6, D7, rfl, ⟨mb11, ps12, hr13⟩, hD9, hx10⟩ := disk_New_spec H2
 refine ⟨_, H4, hs5, ?_⟩
 have H4n : H2.next ≤ H4.next := hx10.1
 have bd6 := hD9 _ hr13.dp; have bmb11 := hD9 _ hr13.dm
 refine st_op (ev_assign rfl) rfl rfl rfl ?_
 try show aw _ _ _ _ _ _
 refine aw_seq ?_
 refine aw_reg ?_
 refine st_op (ev_assign rfl) rfl rfl rfl ?_
 try show aw _ _ _ _ _ _
 refine aw_seq ?_
 refine aw_reg ?_
 obtain ⟨A14, H15, he16, hm17, hx18⟩ := mem_make1 (k1 := .i64) (k2 := .i64) (n := (300000 : Int)) (f := u8c) (e0 := (0 : Int)) H4 eok22 zero5 rfl (by omega) (by omega) (by omega)
 generalize hn20 : (300000 : Int).toNat = bn19 at he16 hm17
 replace hn20 : bn19 = 300000 := by rw [← hn20]; rfl
 generalize hL22 : List.replicate bn19 (0 : Int) = bg21 at he16 hm17
 have hl23 : bg21.length = 300000 := by rw [← hL22, List.length_replicate, hn20]
 have hl23b : Spec.Bytes bg21 := by rw [← hL22]; exact Spec.bytes_rep _
 refine st_op (he16 _ _ _ _ _ _ _ _ _ rfl rfl) rfl rfl rfl ?_
 have H15n : H4.next ≤ H15.next := hx18.1
 refine st_op (ev_assign rfl) rfl rfl rfl ?_
 try show aw _ _ _ _ _ _
 iterate 2 refine aw_seq ?_
 refine aw_reg ?_
 refine st_op (ev_assign rfl) rfl rfl rfl ?_
 try show aw _ _ _ _ _ _
 refine aw_block ?_
 have h26 := DiskR.ext hr13 hx18
 refine aw_keep [0, 4, 5, 6, 7] (l' := (.cons 0 (.slice partsA parts.length partsc) (.cons 4 (.pointer (some ⟨d6, 0, none⟩)) (.cons 5 (.int .i64 0) (.cons 6 (.slice A14 bg21.length bn19) (.cons 7 (.int .i64 0) .nil)))))) (by repeat (first | exact Up.done | refine Up.then ?_ | refine Up.inBlock ?_)) rfl ?_
 refine aw_iter (α := Nat × Int × Int × List Place × (Nat → Prop) × Nat × Heap) (fun a => 12 - a.1) (fun a => (.cons 0 (.slice partsA parts.length partsc) (.cons 4 (.pointer (some ⟨d6, 0, none⟩)) (.cons 5 (.int .i64 a.2.1) (.cons 6 (.slice A14 bg21.length bn19) (.cons 7 (.int .i64 (a.1 : Int)) .nil)))))) (fun a => a.2.2.2.2.2.2) (fun a => (a.1 ≤ parts.length ∧ a.1 ≤ 12) ∧ (a.1 = 0 → a.2.1 = 0) ∧ (0 ≤ a.2.2.1 ∧ a.2.2.1 ≤ a.1) ∧ (0 ≤ a.2.1 ∧ a.2.1 ≤ 1048576) ∧ (DiskR a.2.2.2.2.1 a.2.2.2.2.2.2 d6 a.2.2.2.2.2.1 (Spec.fullL ⟨#[102]⟩ a.1 a.2.1.toNat) a.2.2.2.1 a.2.2.1) ∧ (∀ q, a.2.2.2.2.1 q → D7 q ∨ (H15.next ≤ q ∧ q < a.2.2.2.2.2.2.next)) ∧ (Fr (fun q => (D7 q ∧ Z01 H15 q)) H15 a.2.2.2.2.2.2)) (0, (0 : Int), 0, ps12, D7, mb11, H15) ⟨(show 0 ≤ parts.length ∧ 0 ≤ 12 from ⟨by omega, by omega⟩), (show 0 = 0 → (0 : Int) = 0 from fun _ => rfl), (show 0 ≤ 0 ∧ 0 ≤ 0 from ⟨by decide, by decide⟩), (show 0 ≤ (0 : Int) ∧ (0 : Int) ≤ 1048576 from ⟨by omega, by omega⟩), (show DiskR D7 H15 d6 mb11 (Spec.fullL ⟨#[102]⟩ 0 (0 : Int).toNat) ps12 0 from h26), (show ∀ q, D7 q → D7 q ∨ (H15.next ≤ q ∧ q < H15.next) from (fun q e => .inl e)), (show Fr (fun q => (D7 q ∧ Z01 H15 q)) H15 H15 from (Fr.refl _ H15))⟩ ?_
 rintro ⟨i, n, kq, ps2, D2, mb2, Hl24⟩ ⟨hi, h0, hk, hn25, hr27, hD28, hxl29⟩ ih30
 replace hi : i ≤ parts.length ∧ i ≤ 12 := hi
 replace h0 : i = 0 → n = 0 := h0
 replace hk : 0 ≤ kq ∧ kq ≤ i := hk
 replace hn25 : 0 ≤ n ∧ n ≤ 1048576 := hn25
 replace hr27 : DiskR D2 Hl24 d6 mb2 (Spec.fullL ⟨#[102]⟩ i n.toNat) ps2 kq := hr27
 replace hD28 : ∀ q, D2 q → D7 q ∨ (H15.next ≤ q ∧ q < Hl24.next) := hD28
 replace hxl29 : Fr (fun q => (D7 q ∧ Z01 H15 q)) H15 Hl24 := hxl29
 show aw _ _ _ (RL _ (.cons 0 (.slice partsA parts.length partsc) (.cons 4 (.pointer (some ⟨d6, 0, none⟩)) (.cons 5 (.int .i64 n) (.cons 6 (.slice A14 bg21.length bn19) (.cons 7 (.int .i64 (i : Int)) .nil)))))) Hl24 _
 have Hl24n : H15.next ≤ Hl24.next := hxl29.1
 have hD31 := fun q e => (hD28 q e).imp (hD9 q) id
 iterate 2 refine aw_seq ?_
 refine aw_reg ?_
 iterate 2 refine st_op (ev_move rfl) rfl rfl rfl ?_
 refine st_op (ev_lenSl rfl Try.underlying47) rfl rfl rfl ?_
 refine st_op (ev_int rfl rfl rfl) rfl rfl rfl ?_
 refine st_op (ev_move rfl) rfl rfl rfl ?_
 refine st_bool 21 rfl (fun hb32 => ?_) (fun hb32 => ?_)
 ·
  have hb32 := of_decide_eq_true hb32
  refine st_op (ev_move rfl) rfl rfl rfl ?_
  refine st_op (ev_int rfl rfl rfl) rfl rfl rfl ?_
  refine st_op (ev_pickT rfl rfl) rfl rfl rfl ?_
  try show aw _ _ _ _ _ _
  by_cases hc33 : (decide ((i : Int) < 12)) = true
  ·
   refine aw_condT hc33 rfl ?_
   try show aw _ _ _ _ _ _
   have hc33 := of_decide_eq_true hc33
   refine aw_skip ?_
   try show aw _ _ _ _ _ _
   refine aw_seq ?_
   refine aw_block ?_
   refine aw_seq ?_
   refine aw_reg ?_
   iterate 2 refine st_op (ev_move rfl) rfl rfl rfl ?_
   have hx35 : Ext H Hl24 := (Ext.then (Ext.trans (Ext.trans hx3 hx10) hx18) hxl29 (fun q hq e => by (first | omega | (replace e := hD9 _ e.1; omega))))
   have h34 := Row.ext hparts hx35
   have hi36 : 0 ≤ ((i : Int) : Int) := by omega
   have hi37 : ((i : Int) : Int) < ((parts.length : Nat) : Int) := by omega
   obtain ⟨x38, hx39⟩ : ∃ e, parts[i]? = some e := ⟨_, List.getElem?_eq_getElem (by omega)⟩
   refine st_op (ev_at rfl rfl h34 (getMap i64c hx39) (by first | rfl | omega | simp) hi36 hi37 el47) rfl rfl rfl ?_
   refine st_op (ev_atL rfl h34 (getMap i64c hx39) one3 rfl) rfl rfl rfl ?_
   have ht40 : -300000 < Int.tmod x38 300000 ∧ Int.tmod x38 300000 < 300000 := tmod_bd x38 (by decide)
   refine st_op (ev_rem (b := 300000) rfl rfl (by decide)) rfl rfl rfl ?_
   refine st_op (ev_int64 (c := (Int.tmod x38 300000) + 300000) rfl rfl rfl (by omega) (by omega)) rfl rfl rfl ?_
   refine st_op (ev_remN (a := (Int.tmod x38 300000) + 300000) (c := 300000) rfl rfl (by omega) (by decide) ) rfl rfl rfl ?_
   refine st_op (ev_assign rfl) rfl rfl rfl ?_
   try show aw _ _ _ _ _ _
   refine aw_seq ?_
   refine aw_reg ?_
   iterate 3 refine st_op (ev_move rfl) rfl rfl rfl ?_
   have h49 := My.fr hm17 hxl29 (fun q h1 h2 e => by (first | omega | (replace e := hD9 _ e.1; omega)))
   obtain ⟨A41, c42, L43, hL44, hl45, hs46, hr47⟩ := sliceA_my u8c el22 (by decide) h49 (by omega) (lo := none) (hi := some (.int .i64 (((Int.tmod x38 300000) + 300000) % 300000))) (p := 0) (q := ((((Int.tmod x38 300000) + 300000) % 300000)).toNat) (by rw [Option.isSome_some, if_pos rfl]; exact bound_int (by omega) (by omega) (by first | rfl | omega)) rfl (by omega) (by omega) (.inr ⟨_, _, rfl⟩)
   refine st_op (ev_slice rfl rfl rfl rfl hs46) rfl rfl rfl ?_
   have hL44b : Spec.Bytes L43 := by rw [hL44]; exact Spec.Bytes.take (Spec.Bytes.drop hl23b _) _
   refine st_call rfl rfl rfl ent11 rfl rfl rfl ?_
   have hb54 : L43 = List.replicate ((((Int.tmod x38 300000) + 300000) % 300000)).toNat 0 := by rw [hL44, ← hL22]; simp; omega
   have hS50 := disk_Append_spec Hl24 d6 D2 (Spec.fullL ⟨#[102]⟩ i n.toNat) kq ⟨_, _, hr27⟩ (by omega) (⟨#[102]⟩) (by first | omega | decide | assumption) A41 L43 c42 (My.row hr47) (My.capF hr47 (by omega)) (by omega) (by assumption)
   rw [Spec.full_app (F := ⟨#[102]⟩) (i := i) (n := n.toNat) (by decide) (by omega) hb54 (by omega)] at hS50; try dsimp only at hS50
   obtain ⟨_, H51, hs52, rfl, D55, ⟨mb56, ps57, hr58⟩, hb59, hx53⟩ := hS50
   refine ⟨_, H51, hs52, ?_⟩
   have H51n : Hl24.next ≤ H51.next := hx53.1
   have hD60 := fun q e => (hb59 q e).imp (hD31 q) id
   have hS61 : ∀ q, D55 q → D7 q ∨ (H15.next ≤ q ∧ q < H51.next) := fun q e => (hb59 q e).elim (fun e => (hD28 q e).imp id (fun e => by omega)) (fun e => .inr (by omega))
   refine st_op (ev_assign rfl) rfl rfl rfl ?_
   try show aw _ _ _ _ _ _
   iterate 2 refine aw_seq ?_
   refine aw_reg ?_
   iterate 2 refine st_op (ev_move rfl) rfl rfl rfl ?_
   refine st_op (ev_int64 (c := 1048576 - n) rfl rfl rfl (by omega) (by omega)) rfl rfl rfl ?_
   refine st_op (ev_int rfl rfl rfl) rfl rfl rfl ?_
   try show aw _ _ _ _ _ _
   by_cases hc62 : (decide ((((Int.tmod x38 300000) + 300000) % 300000) > 1048576 - n)) = true
   ·
    refine aw_condT hc62 rfl ?_
    try show aw _ _ _ _ _ _
    have hc62 := of_decide_eq_true hc62
    iterate 2 refine aw_seq ?_
    refine aw_reg ?_
    refine st_op (ev_move rfl) rfl rfl rfl ?_
    refine st_op (ev_int rfl rfl rfl) rfl rfl rfl ?_
    try show aw _ _ _ _ _ _
    by_cases hc63 : ((if n.toNat + ((((Int.tmod x38 300000) + 300000) % 300000)).toNat ≤ 1048576 then (0 : Int) else 5) != 5) = true
    ·
     refine aw_condT hc63 rfl ?_
     try show aw _ _ _ _ _ _
     exact absurd hc63 (by rw [if_neg (by omega)]; decide)
    ·
     rw [Bool.not_eq_true] at hc63; refine aw_condF hc63 rfl ?_
     try show aw _ _ _ _ _ _
     have hc63 : ((if n.toNat + ((((Int.tmod x38 300000) + 300000) % 300000)).toNat ≤ 1048576 then (0 : Int) else 5) = 5) := by simpa using hc63
     refine aw_skip ?_
     try show aw _ _ _ _ _ _
     refine aw_exit ?_
     try show aw _ _ _ _ _ _
     refine aw_reg ?_
     refine st_op (ev_move rfl) rfl rfl rfl ?_
     refine st_op (ev_int64 (c := (i : Int) + 1) rfl rfl rfl (by omega) (by omega)) rfl rfl rfl ?_
     refine st_op (ev_assign rfl) rfl rfl rfl ?_
     try show aw _ _ _ _ _ _
     refine aw_keep [0, 4, 5, 6, 7] (l' := (.cons 0 (.slice partsA parts.length partsc) (.cons 4 (.pointer (some ⟨d6, 0, none⟩)) (.cons 5 (.int .i64 n) (.cons 6 (.slice A14 bg21.length bn19) (.cons 7 (.int .i64 ((i : Int) + 1)) .nil)))))) (by repeat (first | exact Up.done | refine Up.then ?_ | refine Up.inBlock ?_)) rfl ?_
     exact ih30 (i + 1, n, (kq + 1), ps57, D55, mb56, H51) ⟨(show (i + 1) ≤ parts.length ∧ (i + 1) ≤ 12 from ⟨by omega, by omega⟩), (show (i + 1) = 0 → n = 0 from (by omega)), (show 0 ≤ (kq + 1) ∧ (kq + 1) ≤ (i + 1) from ⟨by omega, by omega⟩), (show 0 ≤ n ∧ n ≤ 1048576 from ⟨by omega, by omega⟩), (show DiskR D55 H51 d6 mb56 (Spec.fullL ⟨#[102]⟩ (i + 1) n.toNat) ps57 (kq + 1) from (by have h9 := hr58; rw [if_neg (by omega)] at h9; exact h9)), (show ∀ q, D55 q → D7 q ∨ (H15.next ≤ q ∧ q < H51.next) from (fun q e => (hS61 q e).imp id (fun e => by omega))), (show Fr (fun q => (D7 q ∧ Z01 H15 q)) H15 H51 from (Fr.transG (Fr.transG (Fr.refl (fun q => (D7 q ∧ Z01 H15 q)) H15) hxl29 (fun q hq hE e => (⟨e.1, Z01.back hE e.2⟩))) hx53 (fun q hq hE e => (Or.elim (hD28 q e.1) (fun d => (⟨d, Z01.back hE e.2⟩)) (fun d => absurd hq (by omega))))))⟩ (by simp only; omega)
   ·
    rw [Bool.not_eq_true] at hc62; refine aw_condF hc62 rfl ?_
    try show aw _ _ _ _ _ _
    have hc62 := of_decide_eq_false hc62
    refine aw_skip ?_
    try show aw _ _ _ _ _ _
    iterate 2 refine aw_seq ?_
    refine aw_reg ?_
    refine st_op (ev_move rfl) rfl rfl rfl ?_
    refine st_op (ev_int rfl rfl rfl) rfl rfl rfl ?_
    try show aw _ _ _ _ _ _
    by_cases hc64 : ((if n.toNat + ((((Int.tmod x38 300000) + 300000) % 300000)).toNat ≤ 1048576 then (0 : Int) else 5) != 0) = true
    ·
     refine aw_condT hc64 rfl ?_
     try show aw _ _ _ _ _ _
     exact absurd hc64 (by rw [if_pos (by omega)]; decide)
    ·
     rw [Bool.not_eq_true] at hc64; refine aw_condF hc64 rfl ?_
     try show aw _ _ _ _ _ _
     have hc64 : ((if n.toNat + ((((Int.tmod x38 300000) + 300000) % 300000)).toNat ≤ 1048576 then (0 : Int) else 5) = 0) := by simpa using hc64
     refine aw_skip ?_
     try show aw _ _ _ _ _ _
     refine aw_reg ?_
     iterate 2 refine st_op (ev_move rfl) rfl rfl rfl ?_
     refine st_op (ev_int64 (c := n + (((Int.tmod x38 300000) + 300000) % 300000)) rfl rfl rfl (by omega) (by omega)) rfl rfl rfl ?_
     refine st_op (ev_assign rfl) rfl rfl rfl ?_
     try show aw _ _ _ _ _ _
     refine aw_reg ?_
     refine st_op (ev_move rfl) rfl rfl rfl ?_
     refine st_op (ev_int64 (c := (i : Int) + 1) rfl rfl rfl (by omega) (by omega)) rfl rfl rfl ?_
     refine st_op (ev_assign rfl) rfl rfl rfl ?_
     try show aw _ _ _ _ _ _
     refine aw_keep [0, 4, 5, 6, 7] (l' := (.cons 0 (.slice partsA parts.length partsc) (.cons 4 (.pointer (some ⟨d6, 0, none⟩)) (.cons 5 (.int .i64 (n + (((Int.tmod x38 300000) + 300000) % 300000))) (.cons 6 (.slice A14 bg21.length bn19) (.cons 7 (.int .i64 ((i : Int) + 1)) .nil)))))) (by repeat (first | exact Up.done | refine Up.then ?_ | refine Up.inBlock ?_)) rfl ?_
     exact ih30 (i + 1, n + (((Int.tmod x38 300000) + 300000) % 300000), (kq + 1), ps57, D55, mb56, H51) ⟨(show (i + 1) ≤ parts.length ∧ (i + 1) ≤ 12 from ⟨by omega, by omega⟩), (show (i + 1) = 0 → (n + (((Int.tmod x38 300000) + 300000) % 300000)) = 0 from (by omega)), (show 0 ≤ (kq + 1) ∧ (kq + 1) ≤ (i + 1) from ⟨by omega, by omega⟩), (show 0 ≤ (n + (((Int.tmod x38 300000) + 300000) % 300000)) ∧ (n + (((Int.tmod x38 300000) + 300000) % 300000)) ≤ 1048576 from ⟨by omega, by omega⟩), (show DiskR D55 H51 d6 mb56 (Spec.fullL ⟨#[102]⟩ (i + 1) (n + (((Int.tmod x38 300000) + 300000) % 300000)).toNat) ps57 (kq + 1) from (by have h9 := hr58; rw [if_pos (by omega), show n.toNat + ((((Int.tmod x38 300000) + 300000) % 300000)).toNat = (n + (((Int.tmod x38 300000) + 300000) % 300000)).toNat by omega] at h9; exact h9)), (show ∀ q, D55 q → D7 q ∨ (H15.next ≤ q ∧ q < H51.next) from (fun q e => (hS61 q e).imp id (fun e => by omega))), (show Fr (fun q => (D7 q ∧ Z01 H15 q)) H15 H51 from (Fr.transG (Fr.transG (Fr.refl (fun q => (D7 q ∧ Z01 H15 q)) H15) hxl29 (fun q hq hE e => (⟨e.1, Z01.back hE e.2⟩))) hx53 (fun q hq hE e => (Or.elim (hD28 q e.1) (fun d => (⟨d, Z01.back hE e.2⟩)) (fun d => absurd hq (by omega))))))⟩ (by simp only; omega)
  ·
   rw [Bool.not_eq_true] at hc33; refine aw_condF hc33 rfl ?_
   try show aw _ _ _ _ _ _
   have hc33 := of_decide_eq_false hc33
   refine aw_exit ?_
   try show aw _ _ _ _ _ _
   iterate 2 refine aw_seq ?_
   refine aw_reg ?_
   refine st_op (ev_move rfl) rfl rfl rfl ?_
   refine st_op (ev_lenSl rfl Try.underlying47) rfl rfl rfl ?_
   refine st_op (ev_int rfl rfl rfl) rfl rfl rfl ?_
   try show aw _ _ _ _ _ _
   by_cases hc65 : ((parts.length : Int) == 0) = true
   ·
    refine aw_condT hc65 rfl ?_
    try show aw _ _ _ _ _ _
    have hc65 := eq_of_beq hc65
    exfalso; omega
   ·
    rw [Bool.not_eq_true] at hc65; refine aw_condF hc65 rfl ?_
    try show aw _ _ _ _ _ _
    have hc65 := ne_of_beq_false hc65
    refine aw_skip ?_
    try show aw _ _ _ _ _ _
    refine aw_seq ?_
    refine aw_reg ?_
    refine st_op (ev_move rfl) rfl rfl rfl ?_
    refine st_call rfl rfl rfl ent14 rfl rfl rfl ?_
    have hS66 := disk_Read_spec Hl24 d6 D2 (Spec.fullL ⟨#[102]⟩ i n.toNat) kq ⟨_, _, hr27⟩ (by omega) (⟨#[102]⟩) (by first | omega | decide | assumption)
    rw [Spec.full_read (F := ⟨#[102]⟩) (i := i) (n := n.toNat) (by omega)] at hS66; try dsimp only at hS66
    obtain ⟨_, H67, hs68, A70, c71, rfl, hm72, hb73, hl74, hx69⟩ := hS66
    refine ⟨_, H67, hs68, ?_⟩
    have H67n : Hl24.next ≤ H67.next := hx69.1
    refine st_op (ev_move rfl) rfl rfl rfl ?_
    iterate 2 refine st_op (ev_extract rfl rfl) rfl rfl rfl ?_
    iterate 2 refine st_op (ev_assign rfl) rfl rfl rfl ?_
    try show aw _ _ _ _ _ _
    refine aw_seq ?_
    refine aw_reg ?_
    refine st_op (ev_move rfl) rfl rfl rfl ?_
    refine st_op (ev_int rfl rfl rfl) rfl rfl rfl ?_
    iterate 2 refine st_op (ev_move rfl) rfl rfl rfl ?_
    refine st_op (ev_lenSl rfl Try.underlying22) rfl rfl rfl ?_
    refine st_op (ev_move rfl) rfl rfl rfl ?_
    refine st_op (ev_int rfl rfl rfl) rfl rfl rfl ?_
    refine st_op (ev_pickT rfl rfl) rfl rfl rfl ?_
    refine st_op (ev_move rfl) rfl rfl rfl ?_
    refine st_bool 66 rfl (fun hb75 => ?_) (fun hb75 => ?_)
    ·
     have hb75 := eq_of_beq hb75
     refine st_op (ev_move rfl) rfl rfl rfl ?_
     obtain ⟨A76, H77, he78, hm79, hx80⟩ := mem_make1 (k1 := .i64) (k2 := .i64) (n := (1048577 : Int)) (f := u8c) (e0 := (0 : Int)) H67 eok22 zero5 rfl (by omega) (by omega) (by omega)
     generalize hn82 : (1048577 : Int).toNat = bn81 at he78 hm79
     replace hn82 : bn81 = 1048577 := by rw [← hn82]; rfl
     generalize hL84 : List.replicate bn81 (0 : Int) = bg83 at he78 hm79
     have hl85 : bg83.length = 1048577 := by rw [← hL84, List.length_replicate, hn82]
     have hl85b : Spec.Bytes bg83 := by rw [← hL84]; exact Spec.bytes_rep _
     refine st_op (he78 _ _ _ _ _ _ _ _ _ rfl rfl) rfl rfl rfl ?_
     have H77n : H67.next ≤ H77.next := hx80.1
     refine st_call rfl rfl rfl ent19 rfl rfl rfl ?_
     have hx87 : Ext Hl24 H77 := (Ext.trans hx69 hx80)
     have h86 := DiskR.ext hr27 hx87
     have hS88 := disk_Swap_spec H77 d6 D2 (Spec.fullL ⟨#[102]⟩ i n.toNat) kq ⟨_, _, h86⟩ (by omega) (⟨#[102]⟩) (by first | omega | decide | assumption) A76 bg83 bn81 (My.row hm79) (My.capF hm79 (by first | omega | (simp only [List.length_append, List.length_cons, List.length_nil, List.length_map, List.length_set, List.length_replicate, Spec.bytesOf_length]; omega) | (simp; omega))) (by first | omega | (simp only [List.length_append, List.length_cons, List.length_nil, List.length_map, List.length_set, List.length_replicate, Spec.bytesOf_length]; omega) | (simp; omega)) (by assumption)
     rw [Spec.one_swapF (F := ⟨#[102]⟩) (b := bg83) (l := (Spec.fullL ⟨#[102]⟩ i n.toNat)) (by decide) (by omega)] at hS88; try dsimp only at hS88
     obtain ⟨_, H89, hs90, rfl, D92, ⟨mb93, ps94, hr95⟩, hb96, hx91⟩ := hS88
     refine ⟨_, H89, hs90, ?_⟩
     have H89n : H77.next ≤ H89.next := hx91.1
     have hD97 := fun q e => (hb96 q e).imp (hD31 q) id
     have hS98 : ∀ q, D92 q → D7 q ∨ (H15.next ≤ q ∧ q < H89.next) := fun q e => (hb96 q e).elim (fun e => (hD28 q e).imp id (fun e => by omega)) (fun e => .inr (by omega))
     refine st_op (ev_int rfl rfl rfl) rfl rfl rfl ?_
     refine st_op (ev_pickT rfl rfl) rfl rfl rfl ?_
     iterate 2 refine st_op (ev_move rfl) rfl rfl rfl ?_
     refine st_call rfl rfl rfl ent24 rfl rfl rfl ?_
     have hS99 := disk_Loose_spec H89 d6 D92 (Spec.fullL ⟨#[102]⟩ i n.toNat) (kq + 1) ⟨_, _, hr95⟩ (by omega) (⟨#[102]⟩) (by first | omega | decide | assumption)
     rw [Spec.full_loose (F := ⟨#[102]⟩) (i := i) (n := n.toNat) (by omega)] at hS99; try dsimp only at hS99
     obtain ⟨_, H100, hs101, rfl, hq103, hq104, hx102⟩ := hS99
     refine ⟨_, H100, hs101, ?_⟩
     have H100n : H89.next ≤ H100.next := hx102.1
     refine st_op (ev_move rfl) rfl rfl rfl ?_
     refine st_op (ev_int rfl rfl rfl) rfl rfl rfl ?_
     refine st_op (ev_pickT rfl rfl) rfl rfl rfl ?_
     refine st_op (ev_assign rfl) rfl rfl rfl ?_
     try show aw _ _ _ _ _ _
     refine aw_ret ?_
     have hx105 : Ext H H100 := (Ext.trans (Ext.then (Ext.trans (Ext.trans (Ext.then (Ext.trans (Ext.trans hx3 hx10) hx18) hxl29 (fun q hq e => by (first | omega | (replace e := hD9 _ e.1; omega)))) hx69) hx80) hx91 (fun q hq e => by (first | omega | (replace e := hD31 _ e.1; omega)))) hx102)
     have hres : true = ((n.toNat : Int) == n) := by symm; rw [beq_iff_eq]; omega
     exact ⟨.bool ((n.toNat : Int) == n), rfl, by first | (rw [hres]; done) | rw [← hres], hx105⟩
    ·
     have hb75 := ne_of_beq_false hb75
     exact absurd (by rw [List.length_replicate]; omega) hb75
 ·
  have hb32 := of_decide_eq_false hb32
  iterate 2 refine st_skip rfl rfl rfl ?_
  refine st_op (ev_pickF rfl rfl) rfl rfl rfl ?_
  try show aw _ _ _ _ _ _
  refine aw_cond (t := false) rfl ?_
  try show aw _ _ _ _ _ _
  refine aw_exit ?_
  try show aw _ _ _ _ _ _
  iterate 2 refine aw_seq ?_
  refine aw_reg ?_
  refine st_op (ev_move rfl) rfl rfl rfl ?_
  refine st_op (ev_lenSl rfl Try.underlying47) rfl rfl rfl ?_
  refine st_op (ev_int rfl rfl rfl) rfl rfl rfl ?_
  try show aw _ _ _ _ _ _
  by_cases hc106 : ((parts.length : Int) == 0) = true
  ·
   refine aw_condT hc106 rfl ?_
   try show aw _ _ _ _ _ _
   have hc106 := eq_of_beq hc106
   refine aw_seq ?_
   refine aw_reg ?_
   refine st_op (ev_assign rfl) rfl rfl rfl ?_
   try show aw _ _ _ _ _ _
   refine aw_ret ?_
   have hx107 : Ext H Hl24 := (Ext.then (Ext.trans (Ext.trans hx3 hx10) hx18) hxl29 (fun q hq e => by (first | omega | (replace e := hD9 _ e.1; omega))))
   have hres : true = true := by rfl
   exact ⟨.bool true, rfl, by first | (rw [hres]; done) | rw [← hres], hx107⟩
  ·
   rw [Bool.not_eq_true] at hc106; refine aw_condF hc106 rfl ?_
   try show aw _ _ _ _ _ _
   have hc106 := ne_of_beq_false hc106
   refine aw_skip ?_
   try show aw _ _ _ _ _ _
   refine aw_seq ?_
   refine aw_reg ?_
   refine st_op (ev_move rfl) rfl rfl rfl ?_
   refine st_call rfl rfl rfl ent14 rfl rfl rfl ?_
   have hS108 := disk_Read_spec Hl24 d6 D2 (Spec.fullL ⟨#[102]⟩ i n.toNat) kq ⟨_, _, hr27⟩ (by omega) (⟨#[102]⟩) (by first | omega | decide | assumption)
   rw [Spec.full_read (F := ⟨#[102]⟩) (i := i) (n := n.toNat) (by omega)] at hS108; try dsimp only at hS108
   obtain ⟨_, H109, hs110, A112, c113, rfl, hm114, hb115, hl116, hx111⟩ := hS108
   refine ⟨_, H109, hs110, ?_⟩
   have H109n : Hl24.next ≤ H109.next := hx111.1
   refine st_op (ev_move rfl) rfl rfl rfl ?_
   iterate 2 refine st_op (ev_extract rfl rfl) rfl rfl rfl ?_
   iterate 2 refine st_op (ev_assign rfl) rfl rfl rfl ?_
   try show aw _ _ _ _ _ _
   refine aw_seq ?_
   refine aw_reg ?_
   refine st_op (ev_move rfl) rfl rfl rfl ?_
   refine st_op (ev_int rfl rfl rfl) rfl rfl rfl ?_
   iterate 2 refine st_op (ev_move rfl) rfl rfl rfl ?_
   refine st_op (ev_lenSl rfl Try.underlying22) rfl rfl rfl ?_
   refine st_op (ev_move rfl) rfl rfl rfl ?_
   refine st_op (ev_int rfl rfl rfl) rfl rfl rfl ?_
   refine st_op (ev_pickT rfl rfl) rfl rfl rfl ?_
   refine st_op (ev_move rfl) rfl rfl rfl ?_
   refine st_bool 66 rfl (fun hb117 => ?_) (fun hb117 => ?_)
   ·
    have hb117 := eq_of_beq hb117
    refine st_op (ev_move rfl) rfl rfl rfl ?_
    obtain ⟨A118, H119, he120, hm121, hx122⟩ := mem_make1 (k1 := .i64) (k2 := .i64) (n := (1048577 : Int)) (f := u8c) (e0 := (0 : Int)) H109 eok22 zero5 rfl (by omega) (by omega) (by omega)
    generalize hn124 : (1048577 : Int).toNat = bn123 at he120 hm121
    replace hn124 : bn123 = 1048577 := by rw [← hn124]; rfl
    generalize hL126 : List.replicate bn123 (0 : Int) = bg125 at he120 hm121
    have hl127 : bg125.length = 1048577 := by rw [← hL126, List.length_replicate, hn124]
    have hl127b : Spec.Bytes bg125 := by rw [← hL126]; exact Spec.bytes_rep _
    refine st_op (he120 _ _ _ _ _ _ _ _ _ rfl rfl) rfl rfl rfl ?_
    have H119n : H109.next ≤ H119.next := hx122.1
    refine st_call rfl rfl rfl ent19 rfl rfl rfl ?_
    have hx129 : Ext Hl24 H119 := (Ext.trans hx111 hx122)
    have h128 := DiskR.ext hr27 hx129
    have hS130 := disk_Swap_spec H119 d6 D2 (Spec.fullL ⟨#[102]⟩ i n.toNat) kq ⟨_, _, h128⟩ (by omega) (⟨#[102]⟩) (by first | omega | decide | assumption) A118 bg125 bn123 (My.row hm121) (My.capF hm121 (by first | omega | (simp only [List.length_append, List.length_cons, List.length_nil, List.length_map, List.length_set, List.length_replicate, Spec.bytesOf_length]; omega) | (simp; omega))) (by first | omega | (simp only [List.length_append, List.length_cons, List.length_nil, List.length_map, List.length_set, List.length_replicate, Spec.bytesOf_length]; omega) | (simp; omega)) (by assumption)
    rw [Spec.one_swapF (F := ⟨#[102]⟩) (b := bg125) (l := (Spec.fullL ⟨#[102]⟩ i n.toNat)) (by decide) (by omega)] at hS130; try dsimp only at hS130
    obtain ⟨_, H131, hs132, rfl, D134, ⟨mb135, ps136, hr137⟩, hb138, hx133⟩ := hS130
    refine ⟨_, H131, hs132, ?_⟩
    have H131n : H119.next ≤ H131.next := hx133.1
    have hD139 := fun q e => (hb138 q e).imp (hD31 q) id
    have hS140 : ∀ q, D134 q → D7 q ∨ (H15.next ≤ q ∧ q < H131.next) := fun q e => (hb138 q e).elim (fun e => (hD28 q e).imp id (fun e => by omega)) (fun e => .inr (by omega))
    refine st_op (ev_int rfl rfl rfl) rfl rfl rfl ?_
    refine st_op (ev_pickT rfl rfl) rfl rfl rfl ?_
    iterate 2 refine st_op (ev_move rfl) rfl rfl rfl ?_
    refine st_call rfl rfl rfl ent24 rfl rfl rfl ?_
    have hS141 := disk_Loose_spec H131 d6 D134 (Spec.fullL ⟨#[102]⟩ i n.toNat) (kq + 1) ⟨_, _, hr137⟩ (by omega) (⟨#[102]⟩) (by first | omega | decide | assumption)
    rw [Spec.full_loose (F := ⟨#[102]⟩) (i := i) (n := n.toNat) (by omega)] at hS141; try dsimp only at hS141
    obtain ⟨_, H142, hs143, rfl, hq145, hq146, hx144⟩ := hS141
    refine ⟨_, H142, hs143, ?_⟩
    have H142n : H131.next ≤ H142.next := hx144.1
    refine st_op (ev_move rfl) rfl rfl rfl ?_
    refine st_op (ev_int rfl rfl rfl) rfl rfl rfl ?_
    refine st_op (ev_pickT rfl rfl) rfl rfl rfl ?_
    refine st_op (ev_assign rfl) rfl rfl rfl ?_
    try show aw _ _ _ _ _ _
    refine aw_ret ?_
    have hx147 : Ext H H142 := (Ext.trans (Ext.then (Ext.trans (Ext.trans (Ext.then (Ext.trans (Ext.trans hx3 hx10) hx18) hxl29 (fun q hq e => by (first | omega | (replace e := hD9 _ e.1; omega)))) hx111) hx122) hx133 (fun q hq e => by (first | omega | (replace e := hD31 _ e.1; omega)))) hx144)
    have hres : true = ((n.toNat : Int) == n) := by symm; rw [beq_iff_eq]; omega
    exact ⟨.bool ((n.toNat : Int) == n), rfl, by first | (rw [hres]; done) | rw [← hres], hx147⟩
   ·
    have hb117 := ne_of_beq_false hb117
    exact absurd (by rw [List.length_replicate]; omega) hb117

end Go.AM
