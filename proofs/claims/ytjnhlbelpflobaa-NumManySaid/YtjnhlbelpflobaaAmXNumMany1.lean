/- Part of a machine of its own for this claim: the program's code over memory without draws. -/
import Derived.Test.YtjnhlbelpflobaaAmPConf
import Derived.Test.YtjnhlbelpflobaaAmD
import Derived.Test.YtjnhlbelpflobaaAmE
import Derived.Test.YtjnhlbelpflobaaProg
import Derived.KernelRfl
set_option linter.unusedVariables false
set_option linter.unusedSimpArgs false
set_option linter.unnecessarySimpa false
set_option linter.unusedVariables false
set_option linter.unusedSimpArgs false
set_option linter.unnecessarySimpa false
namespace Go.AM
open Go Go.Proofs

noncomputable def E0 : TypeId → Bool := eqTy Try.prog
theorem E0_ok : EqOk Try.prog E0 := eqTy_ok
theorem mixed : Try.prog.follows .mixedOrders = true := by kernel_rfl

noncomputable def X0 (f : FuncId) : List Tmp := (bif_ (Nat.ble 10 f) (bif_ (Nat.ble 15 f) (bif_ (Nat.ble 18 f) (bif_ (Nat.ble 19 f) (bif_ (Nat.ble 20 f) [0, 2, 3, 4, 5, 6, 7, 15, 22, 28] [0, 2, 3, 4, 5, 6, 7, 8, 9, 13, 41, 53, 59]) [0, 2]) (bif_ (Nat.ble 16 f) (bif_ (Nat.ble 17 f) [0, 2] [0, 2, 3, 4, 5, 6, 7, 14, 18, 25]) [0, 1, 4])) (bif_ (Nat.ble 12 f) (bif_ (Nat.ble 13 f) (bif_ (Nat.ble 14 f) [0, 2, 3, 4, 5, 6, 7, 8, 9, 10, 11, 12, 21, 31, 37, 43] [0, 2, 3, 4, 9, 13]) [0, 1, 4, 5, 10, 14]) (bif_ (Nat.ble 11 f) [0, 1, 4, 8] [0, 1, 4, 8]))) (bif_ (Nat.ble 5 f) (bif_ (Nat.ble 7 f) (bif_ (Nat.ble 8 f) (bif_ (Nat.ble 9 f) [0, 1, 2, 3, 6, 7, 8, 9] [0, 1, 4, 5, 8, 15]) [0, 1, 2, 6, 7, 8, 9, 10, 11, 12, 13, 14, 15, 18, 21, 29, 33, 54, 58]) (bif_ (Nat.ble 6 f) [0, 2, 3, 4, 5, 6, 7, 8, 9, 12, 15, 21, 33, 59] [0, 1, 2, 6, 7, 8, 9, 10, 11, 12, 13, 14, 15, 18, 24, 27])) (bif_ (Nat.ble 2 f) (bif_ (Nat.ble 3 f) (bif_ (Nat.ble 4 f) [0, 2, 3, 4, 5, 6, 7, 8, 9, 10, 11, 12, 13, 14, 15, 18] [0, 1, 2, 3, 4, 10, 11, 12, 13, 14, 15, 16, 17, 18, 19, 20, 23, 42]) []) [])))

theorem ElemInfo.mk5 : ∃ i, Try.prog.info? 5 = some i ∧ i.size = 1 ∧ i.bytes = 1 ∧ (i.zero.map fun z => z.cells.size) = some 1 := elemInfo (by kernel_rfl)
theorem zf5 : ∃ i z, Try.prog.info? 5 = some i ∧ i.zero = some z ∧ z.cells.toList.all flat = true := zeroFlat (by kernel_rfl)
theorem el22 : elemIs Try.prog 22 1 = true := by kernel_rfl
theorem el41 : elemIs Try.prog 41 1 = true := by kernel_rfl
theorem ent12 : enters Try.prog 12 = true := by kernel_rfl
theorem ent14 : enters Try.prog 14 = true := by kernel_rfl
theorem ent9 : enters Try.prog 9 = true := by kernel_rfl
theorem eok22 : ElemOk Try.prog 22 5 1 1 := ⟨Try.underlying22, ElemInfo.mk5⟩
theorem isrow22 : isRow Try.prog (some 22) = true := by kernel_rfl
theorem one2 : oneB Try.prog 2 = true := by kernel_rfl
theorem one5 : oneB Try.prog 5 = true := by kernel_rfl
theorem law1_begun_ran : okF (runF Try.prog X0 1000 40 9 [] Hp.nil) = true := by kernel_rfl
theorem law1_begun_spec (H : Heap) : ∃ v H', Spec Try.prog 9 [] H v H' ∧ (v = .bool true ∧ H' = H) := ⟨_, _, okF_any mixed law1_begun_ran H, rfl, rfl⟩
theorem num_Put_spec (H : Heap) (bH : Heap) (bA : Option Addr) (b : List Int) (bc : Nat) (hb : My bH H bA bc 1 (b.map u8c)) (nb : bH.next ≤ H.next) (lb : b.length ≤ 1099511627756) (n : Int) (hn : -9223372036854775808 ≤ n ∧ n ≤ 9223372036854775807) : ∃ v H', Spec Try.prog 12 [.slice bA b.length bc, .int .i64 n] H v H' ∧ (∃ rA0 rc0, (v = .slice rA0 ((b ++ Spec.enc (Spec.zig n)).length) rc0) ∧ (My bH H' rA0 rc0 1 ((b ++ Spec.enc (Spec.zig n)).map u8c)) ∧ ((Spec.enc (Spec.zig n)).length ≤ 10) ∧ (Fr (fun q => (bH.next ≤ q ∧ q < H.next)) H H')) := by
  refine spec_go2 E0_ok 28 (f := 12) Try.func12 rfl rfl rfl ?_
  refine aw_seq ?_
  refine aw_reg ?_
  refine st_op (ev_assign rfl) rfl rfl rfl ?_
  try show aw _ _ _ _ _ _
  refine aw_seq ?_
  refine aw_reg ?_
  refine st_op (ev_move rfl) rfl rfl rfl ?_
  have hw1 : 0 ≤ (IntKind.u64.wrap n) ∧ (IntKind.u64.wrap n) ≤ 18446744073709551615 := wrapU64 _
  refine st_op (ev_convInt Try.underlying2 Try.underlying45 rfl) rfl rfl rfl ?_
  have hw2 : 0 ≤ (Spec.shl .u64 (IntKind.u64.wrap n) 1) ∧ (Spec.shl .u64 (IntKind.u64.wrap n) 1) ≤ 18446744073709551615 := wrapU64 _
  refine st_op (ev_shlV rfl rfl (by omega)) rfl rfl rfl ?_
  refine st_op (ev_assign rfl) rfl rfl rfl ?_
  try show aw _ _ _ _ _ _
  refine aw_seq ?_
  refine aw_seq ?_
  refine aw_reg ?_
  refine st_op (ev_move rfl) rfl rfl rfl ?_
  refine st_op (ev_int rfl rfl rfl) rfl rfl rfl ?_
  try show aw _ _ _ _ _ _
  by_cases hc3 : (decide (n < 0)) = true
  · refine aw_condT hc3 rfl ?_
    try show aw _ _ _ _ _ _
    have hc3 := of_decide_eq_true hc3
    refine aw_reg ?_
    refine st_op (ev_move rfl) rfl rfl rfl ?_
    have hw4 : 0 ≤ (Go.bits .xor .u64 (IntKind.max .u64) (Spec.shl .u64 (IntKind.u64.wrap n) 1)) ∧ (Go.bits .xor .u64 (IntKind.max .u64) (Spec.shl .u64 (IntKind.u64.wrap n) 1)) ≤ 18446744073709551615 := bitsU64 _ _ _
    refine st_op (ev_comU rfl rfl) rfl rfl rfl ?_
    refine st_op (ev_assign rfl) rfl rfl rfl ?_
    try show aw _ _ _ _ _ _
    refine aw_seq ?_
    refine aw_block ?_
    have hz5 : (Go.bits .xor .u64 (IntKind.max .u64) (Spec.shl .u64 (IntKind.u64.wrap n) 1)) = ((Spec.zig n : Nat) : Int) := by first | (rw [shl1_u64]; (try rw [Spec.not_u64 (by omega) (by omega)]); unfold Spec.zig; split <;> omega) | (simp only [Spec.wrap_u64]; (try rw [Spec.not_u64 (by omega) (by omega)]); unfold Spec.zig; split <;> omega)
    have hz5l := Spec.zig_lt hn.1 hn.2
    refine aw_keep [0, 5] (l' := (.cons 0 (.slice bA b.length bc) (.cons 5 (.int .u64 (Go.bits .xor .u64 (IntKind.max .u64) (Spec.shl .u64 (IntKind.u64.wrap n) 1))) .nil))) (by repeat (first | exact Up.done | refine Up.then ?_ | refine Up.inBlock ?_)) rfl ?_
    refine aw_iter (α := Int × Option Addr × Nat × List Int × Nat × Heap) (fun a => a.2.2.2.2.1) (fun a => (.cons 0 (.slice a.2.1 a.2.2.2.1.length a.2.2.1) (.cons 5 (.int .u64 a.1) .nil))) (fun a => a.2.2.2.2.2) (fun a => (a.1 = (a.2.2.2.2.1 : Int)) ∧ (a.2.2.2.1 ++ Spec.enc a.2.2.2.2.1 = b ++ Spec.enc (Spec.zig n)) ∧ (a.2.2.2.2.1 < 18446744073709551616) ∧ (a.2.2.2.1.length + (Spec.enc a.2.2.2.2.1).length ≤ 1099511627770) ∧ (0 ≤ a.1 ∧ a.1 ≤ 18446744073709551615) ∧ (My bH a.2.2.2.2.2 a.2.1 a.2.2.1 1 (a.2.2.2.1.map u8c)) ∧ (Fr (fun q => (bH.next ≤ q ∧ q < H.next)) H a.2.2.2.2.2)) ((Go.bits .xor .u64 (IntKind.max .u64) (Spec.shl .u64 (IntKind.u64.wrap n) 1)), bA, bc, b, (Spec.zig n), H) ⟨(show (Go.bits .xor .u64 (IntKind.max .u64) (Spec.shl .u64 (IntKind.u64.wrap n) 1)) = ((Spec.zig n) : Int) from hz5), (show b ++ Spec.enc (Spec.zig n) = b ++ Spec.enc (Spec.zig n) from rfl), (show (Spec.zig n) < 18446744073709551616 from hz5l), (show b.length + (Spec.enc (Spec.zig n)).length ≤ 1099511627770 from (by have := Spec.enc_len10 hz5l; simp; omega)), (show 0 ≤ (Go.bits .xor .u64 (IntKind.max .u64) (Spec.shl .u64 (IntKind.u64.wrap n) 1)) ∧ (Go.bits .xor .u64 (IntKind.max .u64) (Spec.shl .u64 (IntKind.u64.wrap n) 1)) ≤ 18446744073709551615 from ⟨by omega, by omega⟩), (show My bH H bA bc 1 (b.map u8c) from hb), (show Fr (fun q => (bH.next ≤ q ∧ q < H.next)) H H from (Fr.refl _ H))⟩ ?_
    rintro ⟨v, A, cp, l, u, Hl6⟩ ⟨hv, hl, hu, hL, hn7, hm8, hxl9⟩ ih10
    replace hv : v = (u : Int) := hv
    replace hl : l ++ Spec.enc u = b ++ Spec.enc (Spec.zig n) := hl
    replace hu : u < 18446744073709551616 := hu
    replace hL : l.length + (Spec.enc u).length ≤ 1099511627770 := hL
    replace hn7 : 0 ≤ v ∧ v ≤ 18446744073709551615 := hn7
    replace hm8 : My bH Hl6 A cp 1 (l.map u8c) := hm8
    replace hxl9 : Fr (fun q => (bH.next ≤ q ∧ q < H.next)) H Hl6 := hxl9
    show aw _ _ _ (RL _ (.cons 0 (.slice A l.length cp) (.cons 5 (.int .u64 v) .nil))) Hl6 _
    have Hl6n : H.next ≤ Hl6.next := hxl9.1
    have hpos := Spec.enc_pos u
    refine aw_seq ?_
    refine aw_seq ?_
    refine aw_reg ?_
    refine st_op (ev_move rfl) rfl rfl rfl ?_
    refine st_op (ev_int rfl rfl rfl) rfl rfl rfl ?_
    try show aw _ _ _ _ _ _
    by_cases hc11 : (decide (v > 127)) = true
    · refine aw_condT hc11 rfl ?_
      try show aw _ _ _ _ _ _
      have hc11 := of_decide_eq_true hc11
      refine aw_skip ?_
      try show aw _ _ _ _ _ _
      refine aw_block ?_
      refine aw_seq ?_
      refine aw_reg ?_
      refine st_op (ev_move rfl) rfl rfl rfl ?_
      refine st_op (ev_move rfl) rfl rfl rfl ?_
      have hw12 : 0 ≤ (IntKind.u8.wrap v) ∧ (IntKind.u8.wrap v) ≤ 255 := wrapU8 _
      refine st_op (ev_convInt Try.underlying45 Try.underlying5 rfl) rfl rfl rfl ?_
      have hw13 : 0 ≤ (Go.bits .or .u8 (IntKind.u8.wrap v) 128) ∧ (Go.bits .or .u8 (IntKind.u8.wrap v) 128) ≤ 255 := bitsU8 _ _ _
      refine st_op (ev_bits rfl rfl rfl) rfl rfl rfl ?_
      obtain ⟨b14, H15, he16, b14e, H15n_, hm18, f17⟩ := mem_lit Hl6 (xs := [.int .u8 (Go.bits .or .u8 (IntKind.u8.wrap v) 128)]) (m := 1) (rows := [[.int .u8 (Go.bits .or .u8 (IntKind.u8.wrap v) 128)]]) rfl eok22 (by decide) (by decide) zf5 rfl (allLen rfl) rfl
      replace hm18 : My Hl6 H15 (some ⟨b14, 0, none⟩) 1 1 ([(Go.bits .or .u8 (IntKind.u8.wrap v) 128)].map u8c) := hm18
      refine st_op (he16 _ _ _ _ _ _ _ _ rfl) rfl rfl rfl ?_
      have hx19 : Ext Hl6 H15 := Ext.new (by omega) H15n_ f17
      have H15n : Hl6.next ≤ H15.next := hx19.1
      have h20 := My.ext hm8 hx19
      obtain ⟨A21, c22, H23, W24, he25, hm26, hf27⟩ := mem_append (f := u8c) (old := l) (new := [(Go.bits .or .u8 (IntKind.u8.wrap v) 128)]) (m := l.length) (mx := 1) (c := cp) (by first | rfl | simp) (by first | rfl | simp) eok22 (by decide) hm8 h20 (by omega) (((My.row hm18)).srcF (by decide) (by first | rfl | simp)) rfl u8c_len u8c_one (by first | omega | (simp only [List.length_append, List.length_cons, List.length_nil, List.length_map, List.length_set, List.length_replicate, Spec.bytesOf_length]; omega) | (simp; omega)) (by first | omega | (simp only [List.length_append, List.length_cons, List.length_nil, List.length_map, List.length_set, List.length_replicate, Spec.bytesOf_length]; omega) | (simp; omega))
      refine st_op (he25 _ _ _ _ _ _ _ _ _ _ rfl rfl isrow22) rfl rfl rfl ?_
      have H23n : H15.next ≤ H23.next := hf27.1
      refine st_op (ev_assign rfl) rfl rfl rfl ?_
      try show aw _ _ _ _ _ _
      refine aw_reg ?_
      refine st_op (ev_move rfl) rfl rfl rfl ?_
      refine st_op (ev_shr (a := v) (c := 128) rfl rfl (by decide) (by decide)) rfl rfl rfl ?_
      refine st_op (ev_assign rfl) rfl rfl rfl ?_
      try show aw _ _ _ _ _ _
      refine aw_keep [0, 5] (l' := (.cons 0 (.slice A21 ((l ++ [(Go.bits .or .u8 (IntKind.u8.wrap v) 128)]).length) c22) (.cons 5 (.int .u64 (v / 128)) .nil))) (by repeat (first | exact Up.done | refine Up.then ?_ | refine Up.inBlock ?_)) rfl ?_
      exact ih10 ((v / 128), A21, c22, (l ++ [(Go.bits .or .u8 (IntKind.u8.wrap v) 128)]), (u / 128), H23) ⟨(show (v / 128) = ((u / 128) : Int) from (by subst hv; omega)), (show (l ++ [(Go.bits .or .u8 (IntKind.u8.wrap v) 128)]) ++ Spec.enc (u / 128) = b ++ Spec.enc (Spec.zig n) from (by rw [← hl, Spec.enc_step (u := u) (by omega), List.append_assoc]; congr 2; subst hv; rw [List.cons_append, List.nil_append]; congr 1 <;> first | (rw [IntKind.wrap_u8, Spec.or128 (by omega) (by omega)]; omega) | (rw [IntKind.wrap_u8]; omega) | omega)), (show (u / 128) < 18446744073709551616 from (by omega)), (show (l ++ [(Go.bits .or .u8 (IntKind.u8.wrap v) 128)]).length + (Spec.enc (u / 128)).length ≤ 1099511627770 from (by rw [Spec.enc_step (u := u) (by omega), List.length_cons] at hL; rw [List.length_append, List.length_singleton]; omega)), (show 0 ≤ (v / 128) ∧ (v / 128) ≤ 18446744073709551615 from ⟨by omega, by omega⟩), (show My bH H23 A21 c22 1 ((l ++ [(Go.bits .or .u8 (IntKind.u8.wrap v) 128)]).map u8c) from hm26), (show Fr (fun q => (bH.next ≤ q ∧ q < H.next)) H H23 from (Fr.trans (Fr.trans (Fr.trans (Fr.refl (fun q => (bH.next ≤ q ∧ q < H.next)) H) hxl9 (fun q hq (e : (bH.next ≤ q ∧ q < H.next)) => show (bH.next ≤ q ∧ q < H.next) from by omega)) (hx19.fr fun _ => False) (fun q hq (e : False) => e.elim)) hf27 (fun q hq (e : (bH.next ≤ q ∧ q < Hl6.next)) => show (bH.next ≤ q ∧ q < H.next) from by omega)))⟩ (by simp only; omega)
    · rw [Bool.not_eq_true] at hc11; refine aw_condF hc11 rfl ?_
      try show aw _ _ _ _ _ _
      have hc11 := of_decide_eq_false hc11
      refine aw_exit ?_
      try show aw _ _ _ _ _ _
      refine aw_seq ?_
      refine aw_reg ?_
      refine st_op (ev_move rfl) rfl rfl rfl ?_
      refine st_op (ev_move rfl) rfl rfl rfl ?_
      refine st_op (ev_convI Try.underlying45 Try.underlying5 rfl (wrU8 (by omega) (by omega))) rfl rfl rfl ?_
      obtain ⟨b28, H29, he30, b28e, H29n_, hm32, f31⟩ := mem_lit Hl6 (xs := [.int .u8 v]) (m := 1) (rows := [[.int .u8 v]]) rfl eok22 (by decide) (by decide) zf5 rfl (allLen rfl) rfl
      replace hm32 : My Hl6 H29 (some ⟨b28, 0, none⟩) 1 1 ([v].map u8c) := hm32
      refine st_op (he30 _ _ _ _ _ _ _ _ rfl) rfl rfl rfl ?_
      have hx33 : Ext Hl6 H29 := Ext.new (by omega) H29n_ f31
      have H29n : Hl6.next ≤ H29.next := hx33.1
      have h34 := My.ext hm8 hx33
      obtain ⟨A35, c36, H37, W38, he39, hm40, hf41⟩ := mem_append (f := u8c) (old := l) (new := [v]) (m := l.length) (mx := 1) (c := cp) (by first | rfl | simp) (by first | rfl | simp) eok22 (by decide) hm8 h34 (by omega) (((My.row hm32)).srcF (by decide) (by first | rfl | simp)) rfl u8c_len u8c_one (by first | omega | (simp only [List.length_append, List.length_cons, List.length_nil, List.length_map, List.length_set, List.length_replicate, Spec.bytesOf_length]; omega) | (simp; omega)) (by first | omega | (simp only [List.length_append, List.length_cons, List.length_nil, List.length_map, List.length_set, List.length_replicate, Spec.bytesOf_length]; omega) | (simp; omega))
      refine st_op (he39 _ _ _ _ _ _ _ _ _ _ rfl rfl isrow22) rfl rfl rfl ?_
      have H37n : H29.next ≤ H37.next := hf41.1
      refine st_op (ev_assign rfl) rfl rfl rfl ?_
      try show aw _ _ _ _ _ _
      refine aw_ret ?_
      have hres : (b ++ Spec.enc (Spec.zig n)) = (l ++ [v]) := by rw [← hl, Spec.enc_small (u := u) (by omega)]; congr 2; subst hv; first | done | omega | (rw [IntKind.wrap_u8]; omega)
      exact ⟨.slice A35 ((l ++ [v]).length) c36, rfl, A35, c36, by rw [hres]; first | done | rfl | simp, (by rw [hres]; exact hm40), (by exact Spec.zig_i64 hn), (Fr.trans (Fr.trans (Fr.trans (Fr.refl (fun q => (bH.next ≤ q ∧ q < H.next)) H) hxl9 (fun q hq (e : (bH.next ≤ q ∧ q < H.next)) => show (bH.next ≤ q ∧ q < H.next) from by omega)) (hx33.fr fun _ => False) (fun q hq (e : False) => e.elim)) hf41 (fun q hq (e : (bH.next ≤ q ∧ q < Hl6.next)) => show (bH.next ≤ q ∧ q < H.next) from by omega))⟩
  · rw [Bool.not_eq_true] at hc3; refine aw_condF hc3 rfl ?_
    try show aw _ _ _ _ _ _
    have hc3 := of_decide_eq_false hc3
    refine aw_skip ?_
    try show aw _ _ _ _ _ _
    refine aw_seq ?_
    refine aw_block ?_
    have hz42 : (Spec.shl .u64 (IntKind.u64.wrap n) 1) = ((Spec.zig n : Nat) : Int) := by first | (rw [shl1_u64]; (try rw [Spec.not_u64 (by omega) (by omega)]); unfold Spec.zig; split <;> omega) | (simp only [Spec.wrap_u64]; (try rw [Spec.not_u64 (by omega) (by omega)]); unfold Spec.zig; split <;> omega)
    have hz42l := Spec.zig_lt hn.1 hn.2
    refine aw_keep [0, 5] (l' := (.cons 0 (.slice bA b.length bc) (.cons 5 (.int .u64 (Spec.shl .u64 (IntKind.u64.wrap n) 1)) .nil))) (by repeat (first | exact Up.done | refine Up.then ?_ | refine Up.inBlock ?_)) rfl ?_
    refine aw_iter (α := Int × Option Addr × Nat × List Int × Nat × Heap) (fun a => a.2.2.2.2.1) (fun a => (.cons 0 (.slice a.2.1 a.2.2.2.1.length a.2.2.1) (.cons 5 (.int .u64 a.1) .nil))) (fun a => a.2.2.2.2.2) (fun a => (a.1 = (a.2.2.2.2.1 : Int)) ∧ (a.2.2.2.1 ++ Spec.enc a.2.2.2.2.1 = b ++ Spec.enc (Spec.zig n)) ∧ (a.2.2.2.2.1 < 18446744073709551616) ∧ (a.2.2.2.1.length + (Spec.enc a.2.2.2.2.1).length ≤ 1099511627770) ∧ (0 ≤ a.1 ∧ a.1 ≤ 18446744073709551615) ∧ (My bH a.2.2.2.2.2 a.2.1 a.2.2.1 1 (a.2.2.2.1.map u8c)) ∧ (Fr (fun q => (bH.next ≤ q ∧ q < H.next)) H a.2.2.2.2.2)) ((Spec.shl .u64 (IntKind.u64.wrap n) 1), bA, bc, b, (Spec.zig n), H) ⟨(show (Spec.shl .u64 (IntKind.u64.wrap n) 1) = ((Spec.zig n) : Int) from hz42), (show b ++ Spec.enc (Spec.zig n) = b ++ Spec.enc (Spec.zig n) from rfl), (show (Spec.zig n) < 18446744073709551616 from hz42l), (show b.length + (Spec.enc (Spec.zig n)).length ≤ 1099511627770 from (by have := Spec.enc_len10 hz42l; simp; omega)), (show 0 ≤ (Spec.shl .u64 (IntKind.u64.wrap n) 1) ∧ (Spec.shl .u64 (IntKind.u64.wrap n) 1) ≤ 18446744073709551615 from ⟨by omega, by omega⟩), (show My bH H bA bc 1 (b.map u8c) from hb), (show Fr (fun q => (bH.next ≤ q ∧ q < H.next)) H H from (Fr.refl _ H))⟩ ?_
    rintro ⟨v, A, cp, l, u, Hl43⟩ ⟨hv, hl, hu, hL, hn44, hm45, hxl46⟩ ih47
    replace hv : v = (u : Int) := hv
    replace hl : l ++ Spec.enc u = b ++ Spec.enc (Spec.zig n) := hl
    replace hu : u < 18446744073709551616 := hu
    replace hL : l.length + (Spec.enc u).length ≤ 1099511627770 := hL
    replace hn44 : 0 ≤ v ∧ v ≤ 18446744073709551615 := hn44
    replace hm45 : My bH Hl43 A cp 1 (l.map u8c) := hm45
    replace hxl46 : Fr (fun q => (bH.next ≤ q ∧ q < H.next)) H Hl43 := hxl46
    show aw _ _ _ (RL _ (.cons 0 (.slice A l.length cp) (.cons 5 (.int .u64 v) .nil))) Hl43 _
    have Hl43n : H.next ≤ Hl43.next := hxl46.1
    have hpos := Spec.enc_pos u
    refine aw_seq ?_
    refine aw_seq ?_
    refine aw_reg ?_
    refine st_op (ev_move rfl) rfl rfl rfl ?_
    refine st_op (ev_int rfl rfl rfl) rfl rfl rfl ?_
    try show aw _ _ _ _ _ _
    by_cases hc48 : (decide (v > 127)) = true
    · refine aw_condT hc48 rfl ?_
      try show aw _ _ _ _ _ _
      have hc48 := of_decide_eq_true hc48
      refine aw_skip ?_
      try show aw _ _ _ _ _ _
      refine aw_block ?_
      refine aw_seq ?_
      refine aw_reg ?_
      refine st_op (ev_move rfl) rfl rfl rfl ?_
      refine st_op (ev_move rfl) rfl rfl rfl ?_
      have hw49 : 0 ≤ (IntKind.u8.wrap v) ∧ (IntKind.u8.wrap v) ≤ 255 := wrapU8 _
      refine st_op (ev_convInt Try.underlying45 Try.underlying5 rfl) rfl rfl rfl ?_
      have hw50 : 0 ≤ (Go.bits .or .u8 (IntKind.u8.wrap v) 128) ∧ (Go.bits .or .u8 (IntKind.u8.wrap v) 128) ≤ 255 := bitsU8 _ _ _
      refine st_op (ev_bits rfl rfl rfl) rfl rfl rfl ?_
      obtain ⟨b51, H52, he53, b51e, H52n_, hm55, f54⟩ := mem_lit Hl43 (xs := [.int .u8 (Go.bits .or .u8 (IntKind.u8.wrap v) 128)]) (m := 1) (rows := [[.int .u8 (Go.bits .or .u8 (IntKind.u8.wrap v) 128)]]) rfl eok22 (by decide) (by decide) zf5 rfl (allLen rfl) rfl
      replace hm55 : My Hl43 H52 (some ⟨b51, 0, none⟩) 1 1 ([(Go.bits .or .u8 (IntKind.u8.wrap v) 128)].map u8c) := hm55
      refine st_op (he53 _ _ _ _ _ _ _ _ rfl) rfl rfl rfl ?_
      have hx56 : Ext Hl43 H52 := Ext.new (by omega) H52n_ f54
      have H52n : Hl43.next ≤ H52.next := hx56.1
      have h57 := My.ext hm45 hx56
      obtain ⟨A58, c59, H60, W61, he62, hm63, hf64⟩ := mem_append (f := u8c) (old := l) (new := [(Go.bits .or .u8 (IntKind.u8.wrap v) 128)]) (m := l.length) (mx := 1) (c := cp) (by first | rfl | simp) (by first | rfl | simp) eok22 (by decide) hm45 h57 (by omega) (((My.row hm55)).srcF (by decide) (by first | rfl | simp)) rfl u8c_len u8c_one (by first | omega | (simp only [List.length_append, List.length_cons, List.length_nil, List.length_map, List.length_set, List.length_replicate, Spec.bytesOf_length]; omega) | (simp; omega)) (by first | omega | (simp only [List.length_append, List.length_cons, List.length_nil, List.length_map, List.length_set, List.length_replicate, Spec.bytesOf_length]; omega) | (simp; omega))
      refine st_op (he62 _ _ _ _ _ _ _ _ _ _ rfl rfl isrow22) rfl rfl rfl ?_
      have H60n : H52.next ≤ H60.next := hf64.1
      refine st_op (ev_assign rfl) rfl rfl rfl ?_
      try show aw _ _ _ _ _ _
      refine aw_reg ?_
      refine st_op (ev_move rfl) rfl rfl rfl ?_
      refine st_op (ev_shr (a := v) (c := 128) rfl rfl (by decide) (by decide)) rfl rfl rfl ?_
      refine st_op (ev_assign rfl) rfl rfl rfl ?_
      try show aw _ _ _ _ _ _
      refine aw_keep [0, 5] (l' := (.cons 0 (.slice A58 ((l ++ [(Go.bits .or .u8 (IntKind.u8.wrap v) 128)]).length) c59) (.cons 5 (.int .u64 (v / 128)) .nil))) (by repeat (first | exact Up.done | refine Up.then ?_ | refine Up.inBlock ?_)) rfl ?_
      exact ih47 ((v / 128), A58, c59, (l ++ [(Go.bits .or .u8 (IntKind.u8.wrap v) 128)]), (u / 128), H60) ⟨(show (v / 128) = ((u / 128) : Int) from (by subst hv; omega)), (show (l ++ [(Go.bits .or .u8 (IntKind.u8.wrap v) 128)]) ++ Spec.enc (u / 128) = b ++ Spec.enc (Spec.zig n) from (by rw [← hl, Spec.enc_step (u := u) (by omega), List.append_assoc]; congr 2; subst hv; rw [List.cons_append, List.nil_append]; congr 1 <;> first | (rw [IntKind.wrap_u8, Spec.or128 (by omega) (by omega)]; omega) | (rw [IntKind.wrap_u8]; omega) | omega)), (show (u / 128) < 18446744073709551616 from (by omega)), (show (l ++ [(Go.bits .or .u8 (IntKind.u8.wrap v) 128)]).length + (Spec.enc (u / 128)).length ≤ 1099511627770 from (by rw [Spec.enc_step (u := u) (by omega), List.length_cons] at hL; rw [List.length_append, List.length_singleton]; omega)), (show 0 ≤ (v / 128) ∧ (v / 128) ≤ 18446744073709551615 from ⟨by omega, by omega⟩), (show My bH H60 A58 c59 1 ((l ++ [(Go.bits .or .u8 (IntKind.u8.wrap v) 128)]).map u8c) from hm63), (show Fr (fun q => (bH.next ≤ q ∧ q < H.next)) H H60 from (Fr.trans (Fr.trans (Fr.trans (Fr.refl (fun q => (bH.next ≤ q ∧ q < H.next)) H) hxl46 (fun q hq (e : (bH.next ≤ q ∧ q < H.next)) => show (bH.next ≤ q ∧ q < H.next) from by omega)) (hx56.fr fun _ => False) (fun q hq (e : False) => e.elim)) hf64 (fun q hq (e : (bH.next ≤ q ∧ q < Hl43.next)) => show (bH.next ≤ q ∧ q < H.next) from by omega)))⟩ (by simp only; omega)
    · rw [Bool.not_eq_true] at hc48; refine aw_condF hc48 rfl ?_
      try show aw _ _ _ _ _ _
      have hc48 := of_decide_eq_false hc48
      refine aw_exit ?_
      try show aw _ _ _ _ _ _
      refine aw_seq ?_
      refine aw_reg ?_
      refine st_op (ev_move rfl) rfl rfl rfl ?_
      refine st_op (ev_move rfl) rfl rfl rfl ?_
      refine st_op (ev_convI Try.underlying45 Try.underlying5 rfl (wrU8 (by omega) (by omega))) rfl rfl rfl ?_
      obtain ⟨b65, H66, he67, b65e, H66n_, hm69, f68⟩ := mem_lit Hl43 (xs := [.int .u8 v]) (m := 1) (rows := [[.int .u8 v]]) rfl eok22 (by decide) (by decide) zf5 rfl (allLen rfl) rfl
      replace hm69 : My Hl43 H66 (some ⟨b65, 0, none⟩) 1 1 ([v].map u8c) := hm69
      refine st_op (he67 _ _ _ _ _ _ _ _ rfl) rfl rfl rfl ?_
      have hx70 : Ext Hl43 H66 := Ext.new (by omega) H66n_ f68
      have H66n : Hl43.next ≤ H66.next := hx70.1
      have h71 := My.ext hm45 hx70
      obtain ⟨A72, c73, H74, W75, he76, hm77, hf78⟩ := mem_append (f := u8c) (old := l) (new := [v]) (m := l.length) (mx := 1) (c := cp) (by first | rfl | simp) (by first | rfl | simp) eok22 (by decide) hm45 h71 (by omega) (((My.row hm69)).srcF (by decide) (by first | rfl | simp)) rfl u8c_len u8c_one (by first | omega | (simp only [List.length_append, List.length_cons, List.length_nil, List.length_map, List.length_set, List.length_replicate, Spec.bytesOf_length]; omega) | (simp; omega)) (by first | omega | (simp only [List.length_append, List.length_cons, List.length_nil, List.length_map, List.length_set, List.length_replicate, Spec.bytesOf_length]; omega) | (simp; omega))
      refine st_op (he76 _ _ _ _ _ _ _ _ _ _ rfl rfl isrow22) rfl rfl rfl ?_
      have H74n : H66.next ≤ H74.next := hf78.1
      refine st_op (ev_assign rfl) rfl rfl rfl ?_
      try show aw _ _ _ _ _ _
      refine aw_ret ?_
      have hres : (b ++ Spec.enc (Spec.zig n)) = (l ++ [v]) := by rw [← hl, Spec.enc_small (u := u) (by omega)]; congr 2; subst hv; first | done | omega | (rw [IntKind.wrap_u8]; omega)
      exact ⟨.slice A72 ((l ++ [v]).length) c73, rfl, A72, c73, by rw [hres]; first | done | rfl | simp, (by rw [hres]; exact hm77), (by exact Spec.zig_i64 hn), (Fr.trans (Fr.trans (Fr.trans (Fr.refl (fun q => (bH.next ≤ q ∧ q < H.next)) H) hxl46 (fun q hq (e : (bH.next ≤ q ∧ q < H.next)) => show (bH.next ≤ q ∧ q < H.next) from by omega)) (hx70.fr fun _ => False) (fun q hq (e : False) => e.elim)) hf78 (fun q hq (e : (bH.next ≤ q ∧ q < Hl43.next)) => show (bH.next ≤ q ∧ q < H.next) from by omega))⟩
theorem num_Get_spec (H : Heap) (bA : Option Addr) (b : List Int) (bc : Nat) (hb : Row H bA bc 1 (b.map u8c)) (cb : b.length ≤ bc) (lb : b.length ≤ 1099511627776) (bb : Spec.Bytes b) : ∃ v H', Spec Try.prog 14 [.slice bA b.length bc] H v H' ∧ ((v = .tuple #[.int .i64 ((Spec.numGet 0 0 b).1), .int .i64 ((Spec.numGet 0 0 b).2.1), .int .i64 ((Spec.numGet 0 0 b).2.2)]) ∧ ((Spec.numGet 0 0 b).2.2 = 0 → -9223372036854775808 ≤ (Spec.numGet 0 0 b).1 ∧ (Spec.numGet 0 0 b).1 ≤ 9223372036854775807 ∧ 1 ≤ (Spec.numGet 0 0 b).2.1 ∧ (Spec.numGet 0 0 b).2.1 ≤ 10 ∧ (Spec.numGet 0 0 b).2.1 ≤ b.length) ∧ (0 ≤ (Spec.numGet 0 0 b).2.2 ∧ (Spec.numGet 0 0 b).2.2 ≤ 2) ∧ ((Spec.numGet 0 0 b).2.2 ≠ 0 → (Spec.numGet 0 0 b).1 = 0 ∧ (Spec.numGet 0 0 b).2.1 = 0) ∧ (Ext H H')) := by
  refine spec_go1 E0_ok 50 (f := 14) Try.func14 rfl rfl rfl ?_
  refine aw_seq ?_
  refine aw_reg ?_
  refine st_op (ev_assign rfl) rfl rfl rfl ?_
  refine st_op (ev_assign rfl) rfl rfl rfl ?_
  refine st_op (ev_assign rfl) rfl rfl rfl ?_
  try show aw _ _ _ _ _ _
  refine aw_seq ?_
  refine aw_reg ?_
  refine st_op (ev_assign rfl) rfl rfl rfl ?_
  try show aw _ _ _ _ _ _
  refine aw_seq ?_
  refine aw_seq ?_
  refine aw_reg ?_
  refine st_op (ev_move rfl) rfl rfl rfl ?_
  refine st_op (ev_lenSl rfl Try.underlying22) rfl rfl rfl ?_
  refine st_op (ev_move rfl) rfl rfl rfl ?_
  try show aw _ _ _ _ _ _
  refine aw_block ?_
  refine aw_keep [5, 9, 10, 11] (l' := (.cons 5 (.int .u64 0) (.cons 9 (.slice bA b.length bc) (.cons 10 (.int .i64 (b.length : Int)) (.cons 11 (.int .i64 0) .nil))))) (by repeat (first | exact Up.done | refine Up.then ?_ | refine Up.inBlock ?_)) rfl ?_
  refine aw_iter (α := Nat × Int × Nat × Heap) (fun a => b.length - a.1) (fun a => (.cons 5 (.int .u64 a.2.1) (.cons 9 (.slice bA b.length bc) (.cons 10 (.int .i64 (b.length : Int)) (.cons 11 (.int .i64 (a.1 : Int)) .nil))))) (fun a => a.2.2.2) (fun a => (a.1 ≤ b.length) ∧ (a.1 ≤ 9) ∧ (a.2.1 = (a.2.2.1 : Int)) ∧ (a.2.2.1 < 2 ^ (7 * a.1)) ∧ (Spec.numGet 0 0 b = Spec.numGet a.1 a.2.2.1 (b.drop a.1)) ∧ (0 ≤ a.2.1 ∧ a.2.1 ≤ 18446744073709551615) ∧ (Ext H a.2.2.2)) (0, (0 : Int), 0, H) ⟨(show 0 ≤ b.length from Nat.zero_le _), (show 0 ≤ 9 from Nat.zero_le _), (show (0 : Int) = (0 : Int) from rfl), (show 0 < 2 ^ (7 * 0) from (by decide)), (show Spec.numGet 0 0 b = Spec.numGet 0 0 (b.drop 0) from rfl), (show 0 ≤ (0 : Int) ∧ (0 : Int) ≤ 18446744073709551615 from ⟨by omega, by omega⟩), (show Ext H H from (Ext.refl H))⟩ ?_
  rintro ⟨i, v, u, Hl1⟩ ⟨hi, hnine, hv, hu, hI, hn2, hxl3⟩ ih4
  replace hi : i ≤ b.length := hi
  replace hnine : i ≤ 9 := hnine
  replace hv : v = (u : Int) := hv
  replace hu : u < 2 ^ (7 * i) := hu
  replace hI : Spec.numGet 0 0 b = Spec.numGet i u (b.drop i) := hI
  replace hn2 : 0 ≤ v ∧ v ≤ 18446744073709551615 := hn2
  replace hxl3 : Ext H Hl1 := hxl3
  show aw _ _ _ (RL _ (.cons 5 (.int .u64 v) (.cons 9 (.slice bA b.length bc) (.cons 10 (.int .i64 (b.length : Int)) (.cons 11 (.int .i64 (i : Int)) .nil))))) Hl1 _
  have Hl1n : H.next ≤ Hl1.next := hxl3.1
  refine aw_seq ?_
  refine aw_reg ?_
  refine st_op (ev_int rfl rfl rfl) rfl rfl rfl ?_
  try show aw _ _ _ _ _ _
  refine aw_seq ?_
  by_cases hc5 : (decide ((i : Int) < (b.length : Int))) = true
  · refine aw_condT hc5 rfl ?_
    try show aw _ _ _ _ _ _
    have hc5 := of_decide_eq_true hc5
    refine aw_skip ?_
    try show aw _ _ _ _ _ _
    refine aw_seq ?_
    refine aw_block ?_
    refine aw_seq ?_
    refine aw_reg ?_
    refine st_op (ev_move rfl) rfl rfl rfl ?_
    have h6 := Row.ext hb hxl3
    have hi7 : 0 ≤ ((i : Int) : Int) := by omega
    have hi8 : ((i : Int) : Int) < ((b.length : Nat) : Int) := by first | omega | (simp only [List.length_append, List.length_cons, List.length_nil, List.length_map, List.length_set, List.length_replicate, Spec.bytesOf_length]; omega) | (simp; omega)
    obtain ⟨x9, hx10⟩ : ∃ e, b[i]? = some e := ⟨_, List.getElem?_eq_getElem (by first | omega | (simp only [List.length_append, List.length_cons, List.length_nil, List.length_map, List.length_set, List.length_replicate, Spec.bytesOf_length]; omega) | (simp; omega))⟩
    have x9b : 0 ≤ x9 ∧ x9 < 256 := ((by first | assumption | exact Spec.Bytes.nil | exact Spec.bytes_of _ | (repeat' first | assumption | exact Spec.Bytes.nil | exact Spec.bytes_of _ | exact Spec.enc_bytes _ | exact Spec.four_bytes _ | exact Spec.sealF_bytes (by assumption) | apply Spec.Bytes.append | apply Spec.Bytes.cons (by omega) | apply Spec.Bytes.take | apply Spec.Bytes.drop)) : Spec.Bytes b) _ (List.mem_of_getElem? hx10)
    have hg := fun h => Spec.get_acc (u := u) (i := i) (c := x9) x9b hu hnine h
    refine st_op (ev_at rfl rfl h6 (getMap u8c hx10) (by first | rfl | omega | simp) hi7 hi8 el22) rfl rfl rfl ?_
    refine st_op (ev_atL rfl h6 (getMap u8c hx10) one5 rfl) rfl rfl rfl ?_
    refine st_op (ev_assign rfl) rfl rfl rfl ?_
    refine st_op (ev_assign rfl) rfl rfl rfl ?_
    try show aw _ _ _ _ _ _
    refine aw_seq ?_
    refine aw_seq ?_
    refine aw_reg ?_
    refine st_op (ev_move rfl) rfl rfl rfl ?_
    refine st_op (ev_int rfl rfl rfl) rfl rfl rfl ?_
    refine st_op (ev_move rfl) rfl rfl rfl ?_
    refine st_bool 18 rfl (fun hb11 => ?_) (fun hb11 => ?_)
    ·
      have hb11 := eq_of_beq hb11
      refine st_op (ev_move rfl) rfl rfl rfl ?_
      refine st_op (ev_int rfl rfl rfl) rfl rfl rfl ?_
      refine st_op (ev_pickT rfl rfl) rfl rfl rfl ?_
      try show aw _ _ _ _ _ _
      by_cases hc12 : (decide (x9 > 1)) = true
      · refine aw_condT hc12 rfl ?_
        try show aw _ _ _ _ _ _
        have hc12 := of_decide_eq_true hc12
        refine aw_seq ?_
        refine aw_reg ?_
        refine st_op (ev_assign rfl) rfl rfl rfl ?_
        refine st_op (ev_assign rfl) rfl rfl rfl ?_
        refine st_op (ev_assign rfl) rfl rfl rfl ?_
        try show aw _ _ _ _ _ _
        refine aw_ret ?_
        have hres : (Spec.numGet 0 0 b) = (0, 0, 1) := by first | (rw [hI, List.drop_eq_nil_of_le (by omega)]; rfl) | (rw [hI, drop_at hx10, Spec.numGet, if_pos (by omega)]; done) | (rw [hI, drop_at hx10, Spec.numGet, if_neg (by omega), if_neg (by omega), if_pos (by omega)]; done) | (subst hv; rw [hI, drop_at hx10, Spec.numGet, if_neg (by omega), if_neg (by omega), if_neg (by omega)]; have h4 := hg.2.2.2 (by omega); rw [h4] at hg; rw [hg.1] at *; have h5 := Spec.get_end hg.2.1; congr 1; first | exact (h5.1 (by assumption)).symm | exact (h5.2 (by assumption)).symm)
        exact ⟨.tuple #[.int .i64 0, .int .i64 0, .int .i64 1], rfl, by rw [hres], (by exact (Spec.numGet_all b bb).1), (by exact (Spec.numGet_all b bb).2.1), (by exact (Spec.numGet_all b bb).2.2), hxl3⟩
      · rw [Bool.not_eq_true] at hc12; refine aw_condF hc12 rfl ?_
        try show aw _ _ _ _ _ _
        have hc12 := of_decide_eq_false hc12
        refine aw_skip ?_
        try show aw _ _ _ _ _ _
        refine aw_seq ?_
        replace hg := hg (by omega)
        refine aw_reg ?_
        refine st_op (ev_move rfl) rfl rfl rfl ?_
        refine st_op (ev_move rfl) rfl rfl rfl ?_
        have hw13 : 0 ≤ (Go.bits .and .u8 x9 127) ∧ (Go.bits .and .u8 x9 127) ≤ 255 := bitsU8 _ _ _
        refine st_op (ev_bits rfl rfl rfl) rfl rfl rfl ?_
        refine st_op (ev_convI Try.underlying5 Try.underlying45 rfl (wrU64 (by omega) (by omega))) rfl rfl rfl ?_
        refine st_op (ev_move rfl) rfl rfl rfl ?_
        refine st_op (ev_int64 (c := 7 * (i : Int)) rfl rfl rfl (by omega) (by omega)) rfl rfl rfl ?_
        have hw14 : 0 ≤ (Spec.shl .u64 (Go.bits .and .u8 x9 127) (7 * (i : Int))) ∧ (Spec.shl .u64 (Go.bits .and .u8 x9 127) (7 * (i : Int))) ≤ 18446744073709551615 := wrapU64 _
        refine st_op (ev_shlV rfl rfl (by omega)) rfl rfl rfl ?_
        have hw15 : 0 ≤ (Go.bits .or .u64 v (Spec.shl .u64 (Go.bits .and .u8 x9 127) (7 * (i : Int)))) ∧ (Go.bits .or .u64 v (Spec.shl .u64 (Go.bits .and .u8 x9 127) (7 * (i : Int)))) ≤ 18446744073709551615 := bitsU64 _ _ _
        refine st_op (ev_bits rfl rfl rfl) rfl rfl rfl ?_
        refine st_op (ev_assign rfl) rfl rfl rfl ?_
        try show aw _ _ _ _ _ _
        refine aw_seq ?_
        refine aw_seq ?_
        refine aw_reg ?_
        refine st_op (ev_move rfl) rfl rfl rfl ?_
        refine st_op (ev_int rfl rfl rfl) rfl rfl rfl ?_
        try show aw _ _ _ _ _ _
        by_cases hc16 : (decide (x9 > 127)) = true
        · refine aw_condT hc16 rfl ?_
          try show aw _ _ _ _ _ _
          have hc16 := of_decide_eq_true hc16
          exfalso; omega
        · rw [Bool.not_eq_true] at hc16; refine aw_condF hc16 rfl ?_
          try show aw _ _ _ _ _ _
          have hc16 := of_decide_eq_false hc16
          refine aw_skip ?_
          try show aw _ _ _ _ _ _
          refine aw_seq ?_
          refine aw_seq ?_
          refine aw_reg ?_
          refine st_op (ev_move rfl) rfl rfl rfl ?_
          refine st_op (ev_int rfl rfl rfl) rfl rfl rfl ?_
          refine st_op (ev_move rfl) rfl rfl rfl ?_
          refine st_bool 34 rfl (fun hb17 => ?_) (fun hb17 => ?_)
          ·
            have hb17 := of_decide_eq_true hb17
            refine st_op (ev_move rfl) rfl rfl rfl ?_
            refine st_op (ev_int rfl rfl rfl) rfl rfl rfl ?_
            refine st_op (ev_pickT rfl rfl) rfl rfl rfl ?_
            try show aw _ _ _ _ _ _
            by_cases hc18 : (x9 == 0) = true
            · refine aw_condT hc18 rfl ?_
              try show aw _ _ _ _ _ _
              have hc18 := eq_of_beq hc18
              refine aw_seq ?_
              refine aw_reg ?_
              refine st_op (ev_assign rfl) rfl rfl rfl ?_
              refine st_op (ev_assign rfl) rfl rfl rfl ?_
              refine st_op (ev_assign rfl) rfl rfl rfl ?_
              try show aw _ _ _ _ _ _
              refine aw_ret ?_
              have hres : (Spec.numGet 0 0 b) = (0, 0, 1) := by first | (rw [hI, List.drop_eq_nil_of_le (by omega)]; rfl) | (rw [hI, drop_at hx10, Spec.numGet, if_pos (by omega)]; done) | (rw [hI, drop_at hx10, Spec.numGet, if_neg (by omega), if_neg (by omega), if_pos (by omega)]; done) | (subst hv; rw [hI, drop_at hx10, Spec.numGet, if_neg (by omega), if_neg (by omega), if_neg (by omega)]; have h4 := hg.2.2.2 (by omega); rw [h4] at hg; rw [hg.1] at *; have h5 := Spec.get_end hg.2.1; congr 1; first | exact (h5.1 (by assumption)).symm | exact (h5.2 (by assumption)).symm)
              exact ⟨.tuple #[.int .i64 0, .int .i64 0, .int .i64 1], rfl, by rw [hres], (by exact (Spec.numGet_all b bb).1), (by exact (Spec.numGet_all b bb).2.1), (by exact (Spec.numGet_all b bb).2.2), hxl3⟩
            · rw [Bool.not_eq_true] at hc18; refine aw_condF hc18 rfl ?_
              try show aw _ _ _ _ _ _
              have hc18 := ne_of_beq_false hc18
              refine aw_skip ?_
              try show aw _ _ _ _ _ _
              refine aw_seq ?_
              refine aw_reg ?_
              refine st_op (ev_move rfl) rfl rfl rfl ?_
              refine st_op (ev_shr (a := (Go.bits .or .u64 v (Spec.shl .u64 (Go.bits .and .u8 x9 127) (7 * (i : Int))))) (c := 2) rfl rfl (by decide) (by decide)) rfl rfl rfl ?_
              refine st_op (ev_convI Try.underlying45 Try.underlying2 rfl (wrI64 (by omega) (by omega))) rfl rfl rfl ?_
              refine st_op (ev_assign rfl) rfl rfl rfl ?_
              try show aw _ _ _ _ _ _
              refine aw_seq ?_
              refine aw_seq ?_
              refine aw_reg ?_
              refine st_op (ev_move rfl) rfl rfl rfl ?_
              have hw19 : 0 ≤ (Go.bits .and .u64 (Go.bits .or .u64 v (Spec.shl .u64 (Go.bits .and .u8 x9 127) (7 * (i : Int)))) 1) ∧ (Go.bits .and .u64 (Go.bits .or .u64 v (Spec.shl .u64 (Go.bits .and .u8 x9 127) (7 * (i : Int)))) 1) ≤ 18446744073709551615 := bitsU64 _ _ _
              refine st_op (ev_bits rfl rfl rfl) rfl rfl rfl ?_
              refine st_op (ev_int rfl rfl rfl) rfl rfl rfl ?_
              try show aw _ _ _ _ _ _
              by_cases hc20 : ((Go.bits .and .u64 (Go.bits .or .u64 v (Spec.shl .u64 (Go.bits .and .u8 x9 127) (7 * (i : Int)))) 1) == 1) = true
              · refine aw_condT hc20 rfl ?_
                try show aw _ _ _ _ _ _
                have hc20 := eq_of_beq hc20
                refine aw_reg ?_
                refine st_op (ev_move rfl) rfl rfl rfl ?_
                have hw21 : -9223372036854775808 ≤ (Go.bits .xor .i64 (-1) ((Go.bits .or .u64 v (Spec.shl .u64 (Go.bits .and .u8 x9 127) (7 * (i : Int)))) / 2)) ∧ (Go.bits .xor .i64 (-1) ((Go.bits .or .u64 v (Spec.shl .u64 (Go.bits .and .u8 x9 127) (7 * (i : Int)))) / 2)) ≤ 9223372036854775807 := bitsI64 _ _ _
                refine st_op (ev_comS rfl rfl) rfl rfl rfl ?_
                refine st_op (ev_assign rfl) rfl rfl rfl ?_
                try show aw _ _ _ _ _ _
                refine aw_seq ?_
                refine aw_reg ?_
                refine st_op (ev_move rfl) rfl rfl rfl ?_
                refine st_op (ev_move rfl) rfl rfl rfl ?_
                refine st_op (ev_int64 (c := (i : Int) + 1) rfl rfl rfl (by omega) (by omega)) rfl rfl rfl ?_
                refine st_op (ev_assign rfl) rfl rfl rfl ?_
                refine st_op (ev_assign rfl) rfl rfl rfl ?_
                refine st_op (ev_assign rfl) rfl rfl rfl ?_
                try show aw _ _ _ _ _ _
                refine aw_ret ?_
                have hres : (Spec.numGet 0 0 b) = ((Go.bits .xor .i64 (-1) ((Go.bits .or .u64 v (Spec.shl .u64 (Go.bits .and .u8 x9 127) (7 * (i : Int)))) / 2)), (i : Int) + 1, 0) := by first | (rw [hI, List.drop_eq_nil_of_le (by omega)]; rfl) | (rw [hI, drop_at hx10, Spec.numGet, if_pos (by omega)]; done) | (rw [hI, drop_at hx10, Spec.numGet, if_neg (by omega), if_neg (by omega), if_pos (by omega)]; done) | (subst hv; rw [hI, drop_at hx10, Spec.numGet, if_neg (by omega), if_neg (by omega), if_neg (by omega)]; have h4 := hg.2.2.2 (by omega); rw [h4] at hg; rw [hg.1] at *; have h5 := Spec.get_end hg.2.1; congr 1; first | exact (h5.1 (by assumption)).symm | exact (h5.2 (by assumption)).symm)
                exact ⟨.tuple #[.int .i64 (Go.bits .xor .i64 (-1) ((Go.bits .or .u64 v (Spec.shl .u64 (Go.bits .and .u8 x9 127) (7 * (i : Int)))) / 2)), .int .i64 ((i : Int) + 1), .int .i64 0], rfl, by rw [hres], (by exact (Spec.numGet_all b bb).1), (by exact (Spec.numGet_all b bb).2.1), (by exact (Spec.numGet_all b bb).2.2), hxl3⟩
              · rw [Bool.not_eq_true] at hc20; refine aw_condF hc20 rfl ?_
                try show aw _ _ _ _ _ _
                have hc20 := ne_of_beq_false hc20
                refine aw_skip ?_
                try show aw _ _ _ _ _ _
                refine aw_seq ?_
                refine aw_reg ?_
                refine st_op (ev_move rfl) rfl rfl rfl ?_
                refine st_op (ev_move rfl) rfl rfl rfl ?_
                refine st_op (ev_int64 (c := (i : Int) + 1) rfl rfl rfl (by omega) (by omega)) rfl rfl rfl ?_
                refine st_op (ev_assign rfl) rfl rfl rfl ?_
                refine st_op (ev_assign rfl) rfl rfl rfl ?_
                refine st_op (ev_assign rfl) rfl rfl rfl ?_
                try show aw _ _ _ _ _ _
                refine aw_ret ?_
                have hres : (Spec.numGet 0 0 b) = (((Go.bits .or .u64 v (Spec.shl .u64 (Go.bits .and .u8 x9 127) (7 * (i : Int)))) / 2), (i : Int) + 1, 0) := by first | (rw [hI, List.drop_eq_nil_of_le (by omega)]; rfl) | (rw [hI, drop_at hx10, Spec.numGet, if_pos (by omega)]; done) | (rw [hI, drop_at hx10, Spec.numGet, if_neg (by omega), if_neg (by omega), if_pos (by omega)]; done) | (subst hv; rw [hI, drop_at hx10, Spec.numGet, if_neg (by omega), if_neg (by omega), if_neg (by omega)]; have h4 := hg.2.2.2 (by omega); rw [h4] at hg; rw [hg.1] at *; have h5 := Spec.get_end hg.2.1; congr 1; first | exact (h5.1 (by assumption)).symm | exact (h5.2 (by assumption)).symm)
                exact ⟨.tuple #[.int .i64 ((Go.bits .or .u64 v (Spec.shl .u64 (Go.bits .and .u8 x9 127) (7 * (i : Int)))) / 2), .int .i64 ((i : Int) + 1), .int .i64 0], rfl, by rw [hres], (by exact (Spec.numGet_all b bb).1), (by exact (Spec.numGet_all b bb).2.1), (by exact (Spec.numGet_all b bb).2.2), hxl3⟩
          ·
            have hb17 := of_decide_eq_false hb17
            exfalso; omega
    ·
      have hb11 := ne_of_beq_false hb11
      refine st_skip rfl rfl rfl ?_
      refine st_skip rfl rfl rfl ?_
      refine st_op (ev_pickF rfl rfl) rfl rfl rfl ?_
      try show aw _ _ _ _ _ _
      refine aw_cond (t := false) rfl ?_
      try show aw _ _ _ _ _ _
      refine aw_skip ?_
      try show aw _ _ _ _ _ _
      refine aw_seq ?_
      replace hg := hg (by omega)
      refine aw_reg ?_
      refine st_op (ev_move rfl) rfl rfl rfl ?_
      refine st_op (ev_move rfl) rfl rfl rfl ?_
      have hw22 : 0 ≤ (Go.bits .and .u8 x9 127) ∧ (Go.bits .and .u8 x9 127) ≤ 255 := bitsU8 _ _ _
      refine st_op (ev_bits rfl rfl rfl) rfl rfl rfl ?_
      refine st_op (ev_convI Try.underlying5 Try.underlying45 rfl (wrU64 (by omega) (by omega))) rfl rfl rfl ?_
      refine st_op (ev_move rfl) rfl rfl rfl ?_
      refine st_op (ev_int64 (c := 7 * (i : Int)) rfl rfl rfl (by omega) (by omega)) rfl rfl rfl ?_
      have hw23 : 0 ≤ (Spec.shl .u64 (Go.bits .and .u8 x9 127) (7 * (i : Int))) ∧ (Spec.shl .u64 (Go.bits .and .u8 x9 127) (7 * (i : Int))) ≤ 18446744073709551615 := wrapU64 _
      refine st_op (ev_shlV rfl rfl (by omega)) rfl rfl rfl ?_
      have hw24 : 0 ≤ (Go.bits .or .u64 v (Spec.shl .u64 (Go.bits .and .u8 x9 127) (7 * (i : Int)))) ∧ (Go.bits .or .u64 v (Spec.shl .u64 (Go.bits .and .u8 x9 127) (7 * (i : Int)))) ≤ 18446744073709551615 := bitsU64 _ _ _
      refine st_op (ev_bits rfl rfl rfl) rfl rfl rfl ?_
      refine st_op (ev_assign rfl) rfl rfl rfl ?_
      try show aw _ _ _ _ _ _
      refine aw_seq ?_
      refine aw_seq ?_
      refine aw_reg ?_
      refine st_op (ev_move rfl) rfl rfl rfl ?_
      refine st_op (ev_int rfl rfl rfl) rfl rfl rfl ?_
      try show aw _ _ _ _ _ _
      by_cases hc25 : (decide (x9 > 127)) = true
      · refine aw_condT hc25 rfl ?_
        try show aw _ _ _ _ _ _
        have hc25 := of_decide_eq_true hc25
        refine aw_exit ?_
        try show aw _ _ _ _ _ _
        refine aw_reg ?_
        refine st_op (ev_int64 (c := (i : Int) + 1) rfl rfl rfl (by omega) (by omega)) rfl rfl rfl ?_
        refine st_op (ev_move rfl) rfl rfl rfl ?_
        try show aw _ _ _ _ _ _
        refine aw_keep [5, 9, 10, 11] (l' := (.cons 5 (.int .u64 (Go.bits .or .u64 v (Spec.shl .u64 (Go.bits .and .u8 x9 127) (7 * (i : Int))))) (.cons 9 (.slice bA b.length bc) (.cons 10 (.int .i64 (b.length : Int)) (.cons 11 (.int .i64 ((i : Int) + 1)) .nil))))) (by repeat (first | exact Up.done | refine Up.then ?_ | refine Up.inBlock ?_)) rfl ?_
        exact ih4 (i + 1, (Go.bits .or .u64 v (Spec.shl .u64 (Go.bits .and .u8 x9 127) (7 * (i : Int)))), (u + (x9 % 128).toNat * 2 ^ (7 * i)), Hl1) ⟨(show (i + 1) ≤ b.length from (by omega)), (show (i + 1) ≤ 9 from (by omega)), (show (Go.bits .or .u64 v (Spec.shl .u64 (Go.bits .and .u8 x9 127) (7 * (i : Int)))) = ((u + (x9 % 128).toNat * 2 ^ (7 * i)) : Int) from (by subst hv; exact hg.1)), (show (u + (x9 % 128).toNat * 2 ^ (7 * i)) < 2 ^ (7 * (i + 1)) from (hg.2.2.1 (by omega))), (show Spec.numGet 0 0 b = Spec.numGet (i + 1) (u + (x9 % 128).toNat * 2 ^ (7 * i)) (b.drop (i + 1)) from (by rw [hI, drop_at hx10, Spec.numGet, if_neg (by omega), if_pos (by omega)])), (show 0 ≤ (Go.bits .or .u64 v (Spec.shl .u64 (Go.bits .and .u8 x9 127) (7 * (i : Int)))) ∧ (Go.bits .or .u64 v (Spec.shl .u64 (Go.bits .and .u8 x9 127) (7 * (i : Int)))) ≤ 18446744073709551615 from ⟨by omega, by omega⟩), (show Ext H Hl1 from hxl3)⟩ (by simp only; omega)
      · rw [Bool.not_eq_true] at hc25; refine aw_condF hc25 rfl ?_
        try show aw _ _ _ _ _ _
        have hc25 := of_decide_eq_false hc25
        refine aw_skip ?_
        try show aw _ _ _ _ _ _
        refine aw_seq ?_
        refine aw_seq ?_
        refine aw_reg ?_
        refine st_op (ev_move rfl) rfl rfl rfl ?_
        refine st_op (ev_int rfl rfl rfl) rfl rfl rfl ?_
        refine st_op (ev_move rfl) rfl rfl rfl ?_
        refine st_bool 34 rfl (fun hb26 => ?_) (fun hb26 => ?_)
        ·
          have hb26 := of_decide_eq_true hb26
          refine st_op (ev_move rfl) rfl rfl rfl ?_
          refine st_op (ev_int rfl rfl rfl) rfl rfl rfl ?_
          refine st_op (ev_pickT rfl rfl) rfl rfl rfl ?_
          try show aw _ _ _ _ _ _
          by_cases hc27 : (x9 == 0) = true
          · refine aw_condT hc27 rfl ?_
            try show aw _ _ _ _ _ _
            have hc27 := eq_of_beq hc27
            refine aw_seq ?_
            refine aw_reg ?_
            refine st_op (ev_assign rfl) rfl rfl rfl ?_
            refine st_op (ev_assign rfl) rfl rfl rfl ?_
            refine st_op (ev_assign rfl) rfl rfl rfl ?_
            try show aw _ _ _ _ _ _
            refine aw_ret ?_
            have hres : (Spec.numGet 0 0 b) = (0, 0, 1) := by first | (rw [hI, List.drop_eq_nil_of_le (by omega)]; rfl) | (rw [hI, drop_at hx10, Spec.numGet, if_pos (by omega)]; done) | (rw [hI, drop_at hx10, Spec.numGet, if_neg (by omega), if_neg (by omega), if_pos (by omega)]; done) | (subst hv; rw [hI, drop_at hx10, Spec.numGet, if_neg (by omega), if_neg (by omega), if_neg (by omega)]; have h4 := hg.2.2.2 (by omega); rw [h4] at hg; rw [hg.1] at *; have h5 := Spec.get_end hg.2.1; congr 1; first | exact (h5.1 (by assumption)).symm | exact (h5.2 (by assumption)).symm)
            exact ⟨.tuple #[.int .i64 0, .int .i64 0, .int .i64 1], rfl, by rw [hres], (by exact (Spec.numGet_all b bb).1), (by exact (Spec.numGet_all b bb).2.1), (by exact (Spec.numGet_all b bb).2.2), hxl3⟩
          · rw [Bool.not_eq_true] at hc27; refine aw_condF hc27 rfl ?_
            try show aw _ _ _ _ _ _
            have hc27 := ne_of_beq_false hc27
            refine aw_skip ?_
            try show aw _ _ _ _ _ _
            refine aw_seq ?_
            refine aw_reg ?_
            refine st_op (ev_move rfl) rfl rfl rfl ?_
            refine st_op (ev_shr (a := (Go.bits .or .u64 v (Spec.shl .u64 (Go.bits .and .u8 x9 127) (7 * (i : Int))))) (c := 2) rfl rfl (by decide) (by decide)) rfl rfl rfl ?_
            refine st_op (ev_convI Try.underlying45 Try.underlying2 rfl (wrI64 (by omega) (by omega))) rfl rfl rfl ?_
            refine st_op (ev_assign rfl) rfl rfl rfl ?_
            try show aw _ _ _ _ _ _
            refine aw_seq ?_
            refine aw_seq ?_
            refine aw_reg ?_
            refine st_op (ev_move rfl) rfl rfl rfl ?_
            have hw28 : 0 ≤ (Go.bits .and .u64 (Go.bits .or .u64 v (Spec.shl .u64 (Go.bits .and .u8 x9 127) (7 * (i : Int)))) 1) ∧ (Go.bits .and .u64 (Go.bits .or .u64 v (Spec.shl .u64 (Go.bits .and .u8 x9 127) (7 * (i : Int)))) 1) ≤ 18446744073709551615 := bitsU64 _ _ _
            refine st_op (ev_bits rfl rfl rfl) rfl rfl rfl ?_
            refine st_op (ev_int rfl rfl rfl) rfl rfl rfl ?_
            try show aw _ _ _ _ _ _
            by_cases hc29 : ((Go.bits .and .u64 (Go.bits .or .u64 v (Spec.shl .u64 (Go.bits .and .u8 x9 127) (7 * (i : Int)))) 1) == 1) = true
            · refine aw_condT hc29 rfl ?_
              try show aw _ _ _ _ _ _
              have hc29 := eq_of_beq hc29
              refine aw_reg ?_
              refine st_op (ev_move rfl) rfl rfl rfl ?_
              have hw30 : -9223372036854775808 ≤ (Go.bits .xor .i64 (-1) ((Go.bits .or .u64 v (Spec.shl .u64 (Go.bits .and .u8 x9 127) (7 * (i : Int)))) / 2)) ∧ (Go.bits .xor .i64 (-1) ((Go.bits .or .u64 v (Spec.shl .u64 (Go.bits .and .u8 x9 127) (7 * (i : Int)))) / 2)) ≤ 9223372036854775807 := bitsI64 _ _ _
              refine st_op (ev_comS rfl rfl) rfl rfl rfl ?_
              refine st_op (ev_assign rfl) rfl rfl rfl ?_
              try show aw _ _ _ _ _ _
              refine aw_seq ?_
              refine aw_reg ?_
              refine st_op (ev_move rfl) rfl rfl rfl ?_
              refine st_op (ev_move rfl) rfl rfl rfl ?_
              refine st_op (ev_int64 (c := (i : Int) + 1) rfl rfl rfl (by omega) (by omega)) rfl rfl rfl ?_
              refine st_op (ev_assign rfl) rfl rfl rfl ?_
              refine st_op (ev_assign rfl) rfl rfl rfl ?_
              refine st_op (ev_assign rfl) rfl rfl rfl ?_
              try show aw _ _ _ _ _ _
              refine aw_ret ?_
              have hres : (Spec.numGet 0 0 b) = ((Go.bits .xor .i64 (-1) ((Go.bits .or .u64 v (Spec.shl .u64 (Go.bits .and .u8 x9 127) (7 * (i : Int)))) / 2)), (i : Int) + 1, 0) := by first | (rw [hI, List.drop_eq_nil_of_le (by omega)]; rfl) | (rw [hI, drop_at hx10, Spec.numGet, if_pos (by omega)]; done) | (rw [hI, drop_at hx10, Spec.numGet, if_neg (by omega), if_neg (by omega), if_pos (by omega)]; done) | (subst hv; rw [hI, drop_at hx10, Spec.numGet, if_neg (by omega), if_neg (by omega), if_neg (by omega)]; have h4 := hg.2.2.2 (by omega); rw [h4] at hg; rw [hg.1] at *; have h5 := Spec.get_end hg.2.1; congr 1; first | exact (h5.1 (by assumption)).symm | exact (h5.2 (by assumption)).symm)
              exact ⟨.tuple #[.int .i64 (Go.bits .xor .i64 (-1) ((Go.bits .or .u64 v (Spec.shl .u64 (Go.bits .and .u8 x9 127) (7 * (i : Int)))) / 2)), .int .i64 ((i : Int) + 1), .int .i64 0], rfl, by rw [hres], (by exact (Spec.numGet_all b bb).1), (by exact (Spec.numGet_all b bb).2.1), (by exact (Spec.numGet_all b bb).2.2), hxl3⟩
            · rw [Bool.not_eq_true] at hc29; refine aw_condF hc29 rfl ?_
              try show aw _ _ _ _ _ _
              have hc29 := ne_of_beq_false hc29
              refine aw_skip ?_
              try show aw _ _ _ _ _ _
              refine aw_seq ?_
              refine aw_reg ?_
              refine st_op (ev_move rfl) rfl rfl rfl ?_
              refine st_op (ev_move rfl) rfl rfl rfl ?_
              refine st_op (ev_int64 (c := (i : Int) + 1) rfl rfl rfl (by omega) (by omega)) rfl rfl rfl ?_
              refine st_op (ev_assign rfl) rfl rfl rfl ?_
              refine st_op (ev_assign rfl) rfl rfl rfl ?_
              refine st_op (ev_assign rfl) rfl rfl rfl ?_
              try show aw _ _ _ _ _ _
              refine aw_ret ?_
              have hres : (Spec.numGet 0 0 b) = (((Go.bits .or .u64 v (Spec.shl .u64 (Go.bits .and .u8 x9 127) (7 * (i : Int)))) / 2), (i : Int) + 1, 0) := by first | (rw [hI, List.drop_eq_nil_of_le (by omega)]; rfl) | (rw [hI, drop_at hx10, Spec.numGet, if_pos (by omega)]; done) | (rw [hI, drop_at hx10, Spec.numGet, if_neg (by omega), if_neg (by omega), if_pos (by omega)]; done) | (subst hv; rw [hI, drop_at hx10, Spec.numGet, if_neg (by omega), if_neg (by omega), if_neg (by omega)]; have h4 := hg.2.2.2 (by omega); rw [h4] at hg; rw [hg.1] at *; have h5 := Spec.get_end hg.2.1; congr 1; first | exact (h5.1 (by assumption)).symm | exact (h5.2 (by assumption)).symm)
              exact ⟨.tuple #[.int .i64 ((Go.bits .or .u64 v (Spec.shl .u64 (Go.bits .and .u8 x9 127) (7 * (i : Int)))) / 2), .int .i64 ((i : Int) + 1), .int .i64 0], rfl, by rw [hres], (by exact (Spec.numGet_all b bb).1), (by exact (Spec.numGet_all b bb).2.1), (by exact (Spec.numGet_all b bb).2.2), hxl3⟩
        ·
          have hb26 := of_decide_eq_false hb26
          refine st_skip rfl rfl rfl ?_
          refine st_skip rfl rfl rfl ?_
          refine st_op (ev_pickF rfl rfl) rfl rfl rfl ?_
          try show aw _ _ _ _ _ _
          refine aw_cond (t := false) rfl ?_
          try show aw _ _ _ _ _ _
          refine aw_skip ?_
          try show aw _ _ _ _ _ _
          refine aw_seq ?_
          refine aw_reg ?_
          refine st_op (ev_move rfl) rfl rfl rfl ?_
          refine st_op (ev_shr (a := (Go.bits .or .u64 v (Spec.shl .u64 (Go.bits .and .u8 x9 127) (7 * (i : Int))))) (c := 2) rfl rfl (by decide) (by decide)) rfl rfl rfl ?_
          refine st_op (ev_convI Try.underlying45 Try.underlying2 rfl (wrI64 (by omega) (by omega))) rfl rfl rfl ?_
          refine st_op (ev_assign rfl) rfl rfl rfl ?_
          try show aw _ _ _ _ _ _
          refine aw_seq ?_
          refine aw_seq ?_
          refine aw_reg ?_
          refine st_op (ev_move rfl) rfl rfl rfl ?_
          have hw31 : 0 ≤ (Go.bits .and .u64 (Go.bits .or .u64 v (Spec.shl .u64 (Go.bits .and .u8 x9 127) (7 * (i : Int)))) 1) ∧ (Go.bits .and .u64 (Go.bits .or .u64 v (Spec.shl .u64 (Go.bits .and .u8 x9 127) (7 * (i : Int)))) 1) ≤ 18446744073709551615 := bitsU64 _ _ _
          refine st_op (ev_bits rfl rfl rfl) rfl rfl rfl ?_
          refine st_op (ev_int rfl rfl rfl) rfl rfl rfl ?_
          try show aw _ _ _ _ _ _
          by_cases hc32 : ((Go.bits .and .u64 (Go.bits .or .u64 v (Spec.shl .u64 (Go.bits .and .u8 x9 127) (7 * (i : Int)))) 1) == 1) = true
          · refine aw_condT hc32 rfl ?_
            try show aw _ _ _ _ _ _
            have hc32 := eq_of_beq hc32
            refine aw_reg ?_
            refine st_op (ev_move rfl) rfl rfl rfl ?_
            have hw33 : -9223372036854775808 ≤ (Go.bits .xor .i64 (-1) ((Go.bits .or .u64 v (Spec.shl .u64 (Go.bits .and .u8 x9 127) (7 * (i : Int)))) / 2)) ∧ (Go.bits .xor .i64 (-1) ((Go.bits .or .u64 v (Spec.shl .u64 (Go.bits .and .u8 x9 127) (7 * (i : Int)))) / 2)) ≤ 9223372036854775807 := bitsI64 _ _ _
            refine st_op (ev_comS rfl rfl) rfl rfl rfl ?_
            refine st_op (ev_assign rfl) rfl rfl rfl ?_
            try show aw _ _ _ _ _ _
            refine aw_seq ?_
            refine aw_reg ?_
            refine st_op (ev_move rfl) rfl rfl rfl ?_
            refine st_op (ev_move rfl) rfl rfl rfl ?_
            refine st_op (ev_int64 (c := (i : Int) + 1) rfl rfl rfl (by omega) (by omega)) rfl rfl rfl ?_
            refine st_op (ev_assign rfl) rfl rfl rfl ?_
            refine st_op (ev_assign rfl) rfl rfl rfl ?_
            refine st_op (ev_assign rfl) rfl rfl rfl ?_
            try show aw _ _ _ _ _ _
            refine aw_ret ?_
            have hres : (Spec.numGet 0 0 b) = ((Go.bits .xor .i64 (-1) ((Go.bits .or .u64 v (Spec.shl .u64 (Go.bits .and .u8 x9 127) (7 * (i : Int)))) / 2)), (i : Int) + 1, 0) := by first | (rw [hI, List.drop_eq_nil_of_le (by omega)]; rfl) | (rw [hI, drop_at hx10, Spec.numGet, if_pos (by omega)]; done) | (rw [hI, drop_at hx10, Spec.numGet, if_neg (by omega), if_neg (by omega), if_pos (by omega)]; done) | (subst hv; rw [hI, drop_at hx10, Spec.numGet, if_neg (by omega), if_neg (by omega), if_neg (by omega)]; have h4 := hg.2.2.2 (by omega); rw [h4] at hg; rw [hg.1] at *; have h5 := Spec.get_end hg.2.1; congr 1; first | exact (h5.1 (by assumption)).symm | exact (h5.2 (by assumption)).symm)
            exact ⟨.tuple #[.int .i64 (Go.bits .xor .i64 (-1) ((Go.bits .or .u64 v (Spec.shl .u64 (Go.bits .and .u8 x9 127) (7 * (i : Int)))) / 2)), .int .i64 ((i : Int) + 1), .int .i64 0], rfl, by rw [hres], (by exact (Spec.numGet_all b bb).1), (by exact (Spec.numGet_all b bb).2.1), (by exact (Spec.numGet_all b bb).2.2), hxl3⟩
          · rw [Bool.not_eq_true] at hc32; refine aw_condF hc32 rfl ?_
            try show aw _ _ _ _ _ _
            have hc32 := ne_of_beq_false hc32
            refine aw_skip ?_
            try show aw _ _ _ _ _ _
            refine aw_seq ?_
            refine aw_reg ?_
            refine st_op (ev_move rfl) rfl rfl rfl ?_
            refine st_op (ev_move rfl) rfl rfl rfl ?_
            refine st_op (ev_int64 (c := (i : Int) + 1) rfl rfl rfl (by omega) (by omega)) rfl rfl rfl ?_
            refine st_op (ev_assign rfl) rfl rfl rfl ?_
            refine st_op (ev_assign rfl) rfl rfl rfl ?_
            refine st_op (ev_assign rfl) rfl rfl rfl ?_
            try show aw _ _ _ _ _ _
            refine aw_ret ?_
            have hres : (Spec.numGet 0 0 b) = (((Go.bits .or .u64 v (Spec.shl .u64 (Go.bits .and .u8 x9 127) (7 * (i : Int)))) / 2), (i : Int) + 1, 0) := by first | (rw [hI, List.drop_eq_nil_of_le (by omega)]; rfl) | (rw [hI, drop_at hx10, Spec.numGet, if_pos (by omega)]; done) | (rw [hI, drop_at hx10, Spec.numGet, if_neg (by omega), if_neg (by omega), if_pos (by omega)]; done) | (subst hv; rw [hI, drop_at hx10, Spec.numGet, if_neg (by omega), if_neg (by omega), if_neg (by omega)]; have h4 := hg.2.2.2 (by omega); rw [h4] at hg; rw [hg.1] at *; have h5 := Spec.get_end hg.2.1; congr 1; first | exact (h5.1 (by assumption)).symm | exact (h5.2 (by assumption)).symm)
            exact ⟨.tuple #[.int .i64 ((Go.bits .or .u64 v (Spec.shl .u64 (Go.bits .and .u8 x9 127) (7 * (i : Int)))) / 2), .int .i64 ((i : Int) + 1), .int .i64 0], rfl, by rw [hres], (by exact (Spec.numGet_all b bb).1), (by exact (Spec.numGet_all b bb).2.1), (by exact (Spec.numGet_all b bb).2.2), hxl3⟩
  · rw [Bool.not_eq_true] at hc5; refine aw_condF hc5 rfl ?_
    try show aw _ _ _ _ _ _
    have hc5 := of_decide_eq_false hc5
    refine aw_exit ?_
    try show aw _ _ _ _ _ _
    refine aw_seq ?_
    refine aw_reg ?_
    refine st_op (ev_assign rfl) rfl rfl rfl ?_
    refine st_op (ev_assign rfl) rfl rfl rfl ?_
    refine st_op (ev_assign rfl) rfl rfl rfl ?_
    try show aw _ _ _ _ _ _
    refine aw_ret ?_
    have hres : (Spec.numGet 0 0 b) = (0, 0, 2) := by first | (rw [hI, List.drop_eq_nil_of_le (by omega)]; rfl) | (rw [hI, drop_at hx10, Spec.numGet, if_pos (by omega)]; done) | (rw [hI, drop_at hx10, Spec.numGet, if_neg (by omega), if_neg (by omega), if_pos (by omega)]; done) | (subst hv; rw [hI, drop_at hx10, Spec.numGet, if_neg (by omega), if_neg (by omega), if_neg (by omega)]; have h4 := hg.2.2.2 (by omega); rw [h4] at hg; rw [hg.1] at *; have h5 := Spec.get_end hg.2.1; congr 1; first | exact (h5.1 (by assumption)).symm | exact (h5.2 (by assumption)).symm)
    exact ⟨.tuple #[.int .i64 0, .int .i64 0, .int .i64 2], rfl, by rw [hres], (by exact (Spec.numGet_all b bb).1), (by exact (Spec.numGet_all b bb).2.1), (by exact (Spec.numGet_all b bb).2.2), hxl3⟩
theorem law_NumMany_spec (H : Heap) (lA : Option Addr) (l : List Int) (lc : Nat) (hl : Row H lA lc 1 (l.map i64c)) (cl : l.length ≤ lc) (ll : l.length ≤ 140737488355328) (bl : Spec.Ints l) : ∃ v H', Spec Try.prog 6 [.slice lA l.length lc] H v H' ∧ ((v = .bool true) ∧ (Ext H H')) := by
  refine spec_go1 E0_ok 66 (f := 6) Try.func6 rfl rfl rfl ?_
  refine aw_seq ?_
  refine aw_reg ?_
  refine st_op (ev_assign rfl) rfl rfl rfl ?_
  try show aw _ _ _ _ _ _
  refine aw_seq ?_
  refine aw_reg ?_
  refine st_call rfl rfl rfl ent9 rfl rfl rfl ?_
  obtain ⟨_, H2, hs1, hs1v, hx3⟩ := law1_begun_spec H 
  rw [hs1v] at hs1; clear hs1v
  rw [hx3] at hs1; clear hx3
  refine ⟨_, H, hs1, ?_⟩
  refine st_op (ev_assign rfl) rfl rfl rfl ?_
  try show aw _ _ _ _ _ _
  refine aw_seq ?_
  refine aw_seq ?_
  refine aw_reg ?_
  refine st_op (ev_move rfl) rfl rfl rfl ?_
  refine st_op (ev_not rfl) rfl rfl rfl ?_
  try show aw _ _ _ _ _ _
  refine aw_cond (t := false) rfl ?_
  try show aw _ _ _ _ _ _
  refine aw_skip ?_
  try show aw _ _ _ _ _ _
  refine aw_seq ?_
  refine aw_seq ?_
  refine aw_reg ?_
  refine st_op (ev_move rfl) rfl rfl rfl ?_
  refine st_op (ev_lenSl rfl Try.underlying41) rfl rfl rfl ?_
  refine st_op (ev_int rfl rfl rfl) rfl rfl rfl ?_
  try show aw _ _ _ _ _ _
  by_cases hc4 : (decide ((l.length : Int) > 40)) = true
  · refine aw_condT hc4 rfl ?_
    try show aw _ _ _ _ _ _
    have hc4 := of_decide_eq_true hc4
    refine aw_reg ?_
    refine st_op (ev_move rfl) rfl rfl rfl ?_
    obtain ⟨A5, c6, L7, hL8, hl9, hs10, hr11, hc12⟩ := sliceA_typed i64c el41 (by decide) hl cl (lo := none) (hi := some (.int .i64 40)) (l := 0) (h := 40) (by rw [Option.isSome_some, if_pos rfl]; exact bound_int (by first | omega | (simp only [List.length_append, List.length_cons, List.length_nil, List.length_map, List.length_set, List.length_replicate, Spec.bytesOf_length]; omega) | (simp; omega)) (by first | omega | (simp only [List.length_append, List.length_cons, List.length_nil, List.length_map, List.length_set, List.length_replicate, Spec.bytesOf_length]; omega) | (simp; omega)) (by first | rfl | omega)) rfl (by first | omega | (simp only [List.length_append, List.length_cons, List.length_nil, List.length_map, List.length_set, List.length_replicate, Spec.bytesOf_length]; omega) | (simp; omega)) (by first | omega | (simp only [List.length_append, List.length_cons, List.length_nil, List.length_map, List.length_set, List.length_replicate, Spec.bytesOf_length]; omega) | (simp; omega))
    refine st_op (ev_slice rfl rfl rfl rfl hs10) rfl rfl rfl ?_
    have hL8i : Spec.Ints L7 := by rw [hL8]; exact (bl.drop _).take _
    refine st_op (ev_assign rfl) rfl rfl rfl ?_
    try show aw _ _ _ _ _ _
    refine aw_seq ?_
    refine aw_reg ?_
    refine st_op (ev_assign rfl) rfl rfl rfl ?_
    try show aw _ _ _ _ _ _
    refine aw_seq ?_
    refine aw_seq ?_
    refine aw_reg ?_
    refine st_op (ev_assign rfl) rfl rfl rfl ?_
    try show aw _ _ _ _ _ _
    refine aw_block ?_
    have hm14 : My H H none 0 1 (([] : List Int).map u8c) := .nil
    refine aw_keep [0, 4, 5] (l' := (.cons 0 (.slice A5 L7.length c6) (.cons 4 (.slice none 0 0) (.cons 5 (.int .i64 0) .nil)))) (by repeat (first | exact Up.done | refine Up.then ?_ | refine Up.inBlock ?_)) rfl ?_
    refine aw_iter (α := Nat × Option Addr × Nat × List Int × Heap) (fun a => L7.length - a.1) (fun a => (.cons 0 (.slice A5 L7.length c6) (.cons 4 (.slice a.2.1 a.2.2.2.1.length a.2.2.1) (.cons 5 (.int .i64 (a.1 : Int)) .nil)))) (fun a => a.2.2.2.2) (fun a => (a.1 ≤ L7.length) ∧ (a.2.2.2.1 = Spec.encs (L7.take a.1)) ∧ (a.2.2.2.1.length ≤ 10 * a.1) ∧ (My H a.2.2.2.2 a.2.1 a.2.2.1 1 (a.2.2.2.1.map u8c)) ∧ (Ext H a.2.2.2.2)) (0, none, 0, ([] : List Int), H) ⟨(show 0 ≤ L7.length from Nat.zero_le _), (show ([] : List Int) = Spec.encs (L7.take 0) from rfl), (show ([] : List Int).length ≤ 10 * 0 from Nat.le_refl _), (show My H H none 0 1 (([] : List Int).map u8c) from hm14), (show Ext H H from (Ext.refl H))⟩ ?_
    rintro ⟨i, A, cp, b, Hl13⟩ ⟨hi, hb, hbl, hm15, hxl16⟩ ih17
    replace hi : i ≤ L7.length := hi
    replace hb : b = Spec.encs (L7.take i) := hb
    replace hbl : b.length ≤ 10 * i := hbl
    replace hm15 : My H Hl13 A cp 1 (b.map u8c) := hm15
    replace hxl16 : Ext H Hl13 := hxl16
    show aw _ _ _ (RL _ (.cons 0 (.slice A5 L7.length c6) (.cons 4 (.slice A b.length cp) (.cons 5 (.int .i64 (i : Int)) .nil)))) Hl13 _
    have Hl13n : H.next ≤ Hl13.next := hxl16.1
    refine aw_seq ?_
    refine aw_seq ?_
    refine aw_reg ?_
    refine st_op (ev_move rfl) rfl rfl rfl ?_
    refine st_op (ev_move rfl) rfl rfl rfl ?_
    refine st_op (ev_lenSl rfl Try.underlying41) rfl rfl rfl ?_
    refine st_op (ev_int rfl rfl rfl) rfl rfl rfl ?_
    try show aw _ _ _ _ _ _
    by_cases hc18 : (decide ((i : Int) < (L7.length : Int))) = true
    · refine aw_condT hc18 rfl ?_
      try show aw _ _ _ _ _ _
      have hc18 := of_decide_eq_true hc18
      refine aw_skip ?_
      try show aw _ _ _ _ _ _
      refine aw_seq ?_
      refine aw_block ?_
      refine aw_reg ?_
      refine st_op (ev_move rfl) rfl rfl rfl ?_
      refine st_op (ev_move rfl) rfl rfl rfl ?_
      refine st_op (ev_move rfl) rfl rfl rfl ?_
      have h19 := Row.ext hr11 hxl16
      have hi20 : 0 ≤ ((i : Int) : Int) := by omega
      have hi21 : ((i : Int) : Int) < ((L7.length : Nat) : Int) := by first | omega | (simp only [List.length_append, List.length_cons, List.length_nil, List.length_map, List.length_set, List.length_replicate, Spec.bytesOf_length]; omega) | (simp; omega)
      obtain ⟨x22, hx23⟩ : ∃ e, L7[i]? = some e := ⟨_, List.getElem?_eq_getElem (by first | omega | (simp only [List.length_append, List.length_cons, List.length_nil, List.length_map, List.length_set, List.length_replicate, Spec.bytesOf_length]; omega) | (simp; omega))⟩
      have x22b : -9223372036854775808 ≤ x22 ∧ x22 ≤ 9223372036854775807 := (show Spec.Ints L7 from by first | assumption | exact hL8i) _ (List.mem_of_getElem? hx23)
      refine st_op (ev_at rfl rfl h19 (getMap i64c hx23) (by first | rfl | omega | simp) hi20 hi21 el41) rfl rfl rfl ?_
      refine st_op (ev_atL rfl h19 (getMap i64c hx23) one2 rfl) rfl rfl rfl ?_
      refine st_call rfl rfl rfl ent12 rfl rfl rfl ?_
      obtain ⟨_, H25, hs24, A27, c28, hs24v, hm29, hq30, hx26⟩ := num_Put_spec Hl13 H A b cp hm15 (by omega) (by first | omega | (simp only [List.length_append, List.length_cons, List.length_nil, List.length_map, List.length_set, List.length_replicate, Spec.bytesOf_length]; omega) | (simp; omega)) x22 ⟨by omega, by omega⟩
      rw [hs24v] at hs24; clear hs24v
      refine ⟨_, H25, hs24, ?_⟩
      have H25n : Hl13.next ≤ H25.next := hx26.1
      refine st_op (ev_assign rfl) rfl rfl rfl ?_
      try show aw _ _ _ _ _ _
      refine aw_reg ?_
      refine st_op (ev_move rfl) rfl rfl rfl ?_
      refine st_op (ev_int64 (c := (i : Int) + 1) rfl rfl rfl (by omega) (by omega)) rfl rfl rfl ?_
      refine st_op (ev_assign rfl) rfl rfl rfl ?_
      try show aw _ _ _ _ _ _
      have hx31 : Ext H H25 := (Ext.then hxl16 hx26 (fun q hq (e : (H.next ≤ q ∧ q < Hl13.next)) => by omega))
      refine aw_keep [0, 4, 5] (l' := (.cons 0 (.slice A5 L7.length c6) (.cons 4 (.slice A27 ((b ++ Spec.enc (Spec.zig x22)).length) c28) (.cons 5 (.int .i64 ((i : Int) + 1)) .nil)))) (by repeat (first | exact Up.done | refine Up.then ?_ | refine Up.inBlock ?_)) rfl ?_
      exact ih17 (i + 1, A27, c28, (b ++ Spec.enc (Spec.zig x22)), H25) ⟨(show (i + 1) ≤ L7.length from (by omega)), (show (b ++ Spec.enc (Spec.zig x22)) = Spec.encs (L7.take (i + 1)) from (by rw [Spec.encs_snoc hx23, ← hb])), (show (b ++ Spec.enc (Spec.zig x22)).length ≤ 10 * (i + 1) from (by rw [List.length_append]; have := Spec.zig_i64 x22b; omega)), (show My H H25 A27 c28 1 ((b ++ Spec.enc (Spec.zig x22)).map u8c) from hm29), (show Ext H H25 from hx31)⟩ (by simp only; omega)
    · rw [Bool.not_eq_true] at hc18; refine aw_condF hc18 rfl ?_
      try show aw _ _ _ _ _ _
      have hc18 := of_decide_eq_false hc18
      refine aw_exit ?_
      try show aw _ _ _ _ _ _
      refine aw_seq ?_
      refine aw_seq ?_
      refine aw_reg ?_
      refine st_op (ev_assign rfl) rfl rfl rfl ?_
      try show aw _ _ _ _ _ _
      refine aw_block ?_
      have hbe : b = Spec.encs L7 := by rw [hb, List.take_of_length_le (by omega)]
      refine aw_keep [0, 4, 6] (l' := (.cons 0 (.slice A5 L7.length c6) (.cons 4 (.slice A b.length cp) (.cons 6 (.int .i64 0) .nil)))) (by repeat (first | exact Up.done | refine Up.then ?_ | refine Up.inBlock ?_)) rfl ?_
      refine aw_iter (α := Nat × Option Addr × Nat × List Int × Heap) (fun a => L7.length - a.1) (fun a => (.cons 0 (.slice A5 L7.length c6) (.cons 4 (.slice a.2.1 a.2.2.2.1.length a.2.2.1) (.cons 6 (.int .i64 (a.1 : Int)) .nil)))) (fun a => a.2.2.2.2) (fun a => (a.1 ≤ L7.length) ∧ (a.2.2.2.1 = Spec.encs (L7.drop a.1)) ∧ (a.2.2.2.1.length ≤ 400) ∧ (Row a.2.2.2.2 a.2.1 a.2.2.1 1 (a.2.2.2.1.map u8c)) ∧ (a.2.2.2.1.length ≤ a.2.2.1) ∧ (Ext Hl13 a.2.2.2.2)) (0, A, cp, b, Hl13) ⟨(show 0 ≤ L7.length from Nat.zero_le _), (show b = Spec.encs (L7.drop 0) from hbe), (show b.length ≤ 400 from (by omega)), (show Row Hl13 A cp 1 (b.map u8c) from (My.row hm15)), (show b.length ≤ cp from (My.capF hm15 (by first | omega | (simp only [List.length_append, List.length_cons, List.length_nil, List.length_map, List.length_set, List.length_replicate, Spec.bytesOf_length]; omega) | (simp; omega)))), (show Ext Hl13 Hl13 from (Ext.refl Hl13))⟩ ?_
      rintro ⟨j, A2, c2, b2, Hl32⟩ ⟨hj, hbb, hb2, hr33, hr34, hxl35⟩ ih36
      replace hj : j ≤ L7.length := hj
      replace hbb : b2 = Spec.encs (L7.drop j) := hbb
      replace hb2 : b2.length ≤ 400 := hb2
      replace hr33 : Row Hl32 A2 c2 1 (b2.map u8c) := hr33
      replace hr34 : b2.length ≤ c2 := hr34
      replace hxl35 : Ext Hl13 Hl32 := hxl35
      show aw _ _ _ (RL _ (.cons 0 (.slice A5 L7.length c6) (.cons 4 (.slice A2 b2.length c2) (.cons 6 (.int .i64 (j : Int)) .nil)))) Hl32 _
      have Hl32n : Hl13.next ≤ Hl32.next := hxl35.1
      have hby : Spec.Bytes b2 := by rw [hbb]; exact Spec.encs_bytes _
      refine aw_seq ?_
      refine aw_seq ?_
      refine aw_reg ?_
      refine st_op (ev_move rfl) rfl rfl rfl ?_
      refine st_op (ev_move rfl) rfl rfl rfl ?_
      refine st_op (ev_lenSl rfl Try.underlying41) rfl rfl rfl ?_
      refine st_op (ev_int rfl rfl rfl) rfl rfl rfl ?_
      try show aw _ _ _ _ _ _
      by_cases hc37 : (decide ((j : Int) < (L7.length : Int))) = true
      · refine aw_condT hc37 rfl ?_
        try show aw _ _ _ _ _ _
        have hc37 := of_decide_eq_true hc37
        refine aw_skip ?_
        try show aw _ _ _ _ _ _
        refine aw_seq ?_
        refine aw_block ?_
        refine aw_seq ?_
        refine aw_reg ?_
        refine st_op (ev_move rfl) rfl rfl rfl ?_
        refine st_call rfl rfl rfl ent14 rfl rfl rfl ?_
        obtain ⟨_, H39, hs38, hs38v, hq41, hq42, hq43, hx40⟩ := num_Get_spec Hl32 A2 b2 c2 hr33 hr34 (by first | omega | (simp only [List.length_append, List.length_cons, List.length_nil, List.length_map, List.length_set, List.length_replicate, Spec.bytesOf_length]; omega) | (simp; omega)) (by first | assumption | exact Spec.Bytes.nil | exact Spec.bytes_of _ | (repeat' first | assumption | exact Spec.Bytes.nil | exact Spec.bytes_of _ | exact Spec.enc_bytes _ | exact Spec.four_bytes _ | exact Spec.sealF_bytes (by assumption) | apply Spec.Bytes.append | apply Spec.Bytes.cons (by omega) | apply Spec.Bytes.take | apply Spec.Bytes.drop))
        rw [hs38v] at hs38; clear hs38v
        generalize hR45 : (Spec.numGet 0 0 b2) = r44 at hs38 hq41 hq42 hq43
        obtain ⟨z46, z47, z48⟩ := r44
        dsimp only at hs38 hq41 hq42 hq43
        refine ⟨_, H39, hs38, ?_⟩
        have H39n : Hl32.next ≤ H39.next := hx40.1
        refine st_op (ev_move rfl) rfl rfl rfl ?_
        refine st_op (ev_extract rfl rfl) rfl rfl rfl ?_
        refine st_op (ev_extract rfl rfl) rfl rfl rfl ?_
        refine st_op (ev_extract rfl rfl) rfl rfl rfl ?_
        refine st_op (ev_assign rfl) rfl rfl rfl ?_
        refine st_op (ev_assign rfl) rfl rfl rfl ?_
        refine st_op (ev_assign rfl) rfl rfl rfl ?_
        try show aw _ _ _ _ _ _
        refine aw_seq ?_
        refine aw_seq ?_
        refine aw_reg ?_
        refine st_op (ev_move rfl) rfl rfl rfl ?_
        refine st_op (ev_int rfl rfl rfl) rfl rfl rfl ?_
        refine st_op (ev_move rfl) rfl rfl rfl ?_
        refine st_bool 44 rfl (fun hb49 => ?_) (fun hb49 => ?_)
        ·
          obtain ⟨x50, hx51⟩ : ∃ e, L7[j]? = some e := ⟨_, List.getElem?_eq_getElem (by omega)⟩
          have x50b : -9223372036854775808 ≤ x50 ∧ x50 ≤ 9223372036854775807 := (show Spec.Ints L7 from by first | assumption | exact hL8i) _ (List.mem_of_getElem? hx51)
          have hkey := Spec.many_get hbb hx51 x50b hR45
          have hb49 : ¬ (z48 = 0) := by simpa using hb49
          exfalso; omega
        ·
          obtain ⟨x52, hx53⟩ : ∃ e, L7[j]? = some e := ⟨_, List.getElem?_eq_getElem (by omega)⟩
          have x52b : -9223372036854775808 ≤ x52 ∧ x52 ≤ 9223372036854775807 := (show Spec.Ints L7 from by first | assumption | exact hL8i) _ (List.mem_of_getElem? hx53)
          have hkey := Spec.many_get hbb hx53 x52b hR45
          have hb49 : (z48 = 0) := by simpa using hb49
          refine st_op (ev_move rfl) rfl rfl rfl ?_
          refine st_op (ev_move rfl) rfl rfl rfl ?_
          refine st_op (ev_move rfl) rfl rfl rfl ?_
          have hx55 : Ext H H39 := (Ext.trans (Ext.trans hxl16 hxl35) hx40)
          have h54 := Row.ext hr11 hx55
          have hi56 : 0 ≤ ((j : Int) : Int) := by omega
          have hi57 : ((j : Int) : Int) < ((L7.length : Nat) : Int) := by first | omega | (simp only [List.length_append, List.length_cons, List.length_nil, List.length_map, List.length_set, List.length_replicate, Spec.bytesOf_length]; omega) | (simp; omega)
          refine st_op (ev_at rfl rfl h54 (getMap i64c hx53) (by first | rfl | omega | simp) hi56 hi57 el41) rfl rfl rfl ?_
          refine st_op (ev_atL rfl h54 (getMap i64c hx53) one2 rfl) rfl rfl rfl ?_
          refine st_op (ev_int rfl rfl rfl) rfl rfl rfl ?_
          refine st_op (ev_pickF rfl rfl) rfl rfl rfl ?_
          refine st_op (ev_move rfl) rfl rfl rfl ?_
          refine st_bool 52 rfl (fun hb58 => ?_) (fun hb58 => ?_)
          ·
            have hb58 : ¬ (z46 = x52) := by simpa using hb58
            exfalso; omega
          ·
            have hb58 : (z46 = x52) := by simpa using hb58
            refine st_op (ev_move rfl) rfl rfl rfl ?_
            refine st_op (ev_int rfl rfl rfl) rfl rfl rfl ?_
            refine st_op (ev_pickF rfl rfl) rfl rfl rfl ?_
            refine st_op (ev_move rfl) rfl rfl rfl ?_
            refine st_bool 56 rfl (fun hb59 => ?_) (fun hb59 => ?_)
            ·
              have hb59 := of_decide_eq_true hb59
              exfalso; omega
            ·
              have hb59 := of_decide_eq_false hb59
              refine st_op (ev_move rfl) rfl rfl rfl ?_
              refine st_op (ev_int rfl rfl rfl) rfl rfl rfl ?_
              refine st_op (ev_pickF rfl rfl) rfl rfl rfl ?_
              try show aw _ _ _ _ _ _
              by_cases hc60 : (decide (z47 > 10)) = true
              · refine aw_condT hc60 rfl ?_
                try show aw _ _ _ _ _ _
                have hc60 := of_decide_eq_true hc60
                exfalso; omega
              · rw [Bool.not_eq_true] at hc60; refine aw_condF hc60 rfl ?_
                try show aw _ _ _ _ _ _
                have hc60 := of_decide_eq_false hc60
                refine aw_skip ?_
                try show aw _ _ _ _ _ _
                refine aw_reg ?_
                refine st_op (ev_move rfl) rfl rfl rfl ?_
                refine st_op (ev_move rfl) rfl rfl rfl ?_
                have h69 := Row.ext hr33 hx40
                obtain ⟨A61, c62, L63, hL64, hl65, hs66, hr67, hc68⟩ := sliceA_typed u8c el22 (by decide) h69 hr34 (lo := some (.int .i64 z47)) (hi := none) (l := (z47).toNat) (h := b2.length) rfl (bound_int (by first | omega | (simp only [List.length_append, List.length_cons, List.length_nil, List.length_map, List.length_set, List.length_replicate, Spec.bytesOf_length]; omega) | (simp; omega)) (by first | omega | (simp only [List.length_append, List.length_cons, List.length_nil, List.length_map, List.length_set, List.length_replicate, Spec.bytesOf_length]; omega) | (simp; omega)) (by first | rfl | omega)) (by first | omega | (simp only [List.length_append, List.length_cons, List.length_nil, List.length_map, List.length_set, List.length_replicate, Spec.bytesOf_length]; omega) | (simp; omega)) (by first | omega | (simp only [List.length_append, List.length_cons, List.length_nil, List.length_map, List.length_set, List.length_replicate, Spec.bytesOf_length]; omega) | (simp; omega))
                refine st_op (ev_slice rfl rfl rfl rfl hs66) rfl rfl rfl ?_
                have hL64b : Spec.Bytes L63 := by rw [hL64]; exact Spec.Bytes.take (Spec.Bytes.drop (by first | assumption | exact Spec.Bytes.nil | exact Spec.bytes_of _ | (repeat' first | assumption | exact Spec.Bytes.nil | exact Spec.bytes_of _ | exact Spec.enc_bytes _ | exact Spec.four_bytes _ | exact Spec.sealF_bytes (by assumption) | apply Spec.Bytes.append | apply Spec.Bytes.cons (by omega) | apply Spec.Bytes.take | apply Spec.Bytes.drop)) _) _
                refine st_op (ev_assign rfl) rfl rfl rfl ?_
                try show aw _ _ _ _ _ _
                refine aw_reg ?_
                refine st_op (ev_move rfl) rfl rfl rfl ?_
                refine st_op (ev_int64 (c := (j : Int) + 1) rfl rfl rfl (by omega) (by omega)) rfl rfl rfl ?_
                refine st_op (ev_assign rfl) rfl rfl rfl ?_
                try show aw _ _ _ _ _ _
                have hx70 : Ext Hl13 H39 := (Ext.trans hxl35 hx40)
                refine aw_keep [0, 4, 6] (l' := (.cons 0 (.slice A5 L7.length c6) (.cons 4 (.slice A61 L63.length c62) (.cons 6 (.int .i64 ((j : Int) + 1)) .nil)))) (by repeat (first | exact Up.done | refine Up.then ?_ | refine Up.inBlock ?_)) rfl ?_
                exact ih36 (j + 1, A61, c62, L63, H39) ⟨(show (j + 1) ≤ L7.length from (by omega)), (show L63 = Spec.encs (L7.drop (j + 1)) from (hkey.2.2.2.2.2 _ hL64)), (show L63.length ≤ 400 from (by omega)), (show Row H39 A61 c62 1 (L63.map u8c) from hr67), (show L63.length ≤ c62 from hc68), (show Ext Hl13 H39 from hx70)⟩ (by simp only; omega)
      · rw [Bool.not_eq_true] at hc37; refine aw_condF hc37 rfl ?_
        try show aw _ _ _ _ _ _
        have hc37 := of_decide_eq_false hc37
        refine aw_exit ?_
        try show aw _ _ _ _ _ _
        refine aw_seq ?_
        refine aw_reg ?_
        refine st_op (ev_move rfl) rfl rfl rfl ?_
        refine st_op (ev_lenSl rfl Try.underlying22) rfl rfl rfl ?_
        refine st_op (ev_int rfl rfl rfl) rfl rfl rfl ?_
        refine st_op (ev_assign rfl) rfl rfl rfl ?_
        try show aw _ _ _ _ _ _
        refine aw_ret ?_
        have hx71 : Ext H Hl32 := (Ext.trans hxl16 hxl35)
        have hres : true = ((b2.length : Int) == 0) := by symm; rw [beq_iff_eq, hbb, List.drop_eq_nil_of_le (by omega)]; rfl
        exact ⟨.bool ((b2.length : Int) == 0), rfl, by rw [hres], hx71⟩
  · rw [Bool.not_eq_true] at hc4; refine aw_condF hc4 rfl ?_
    try show aw _ _ _ _ _ _
    have hc4 := of_decide_eq_false hc4
    refine aw_skip ?_
    try show aw _ _ _ _ _ _
    refine aw_seq ?_
    refine aw_reg ?_
    refine st_op (ev_assign rfl) rfl rfl rfl ?_
    try show aw _ _ _ _ _ _
    refine aw_seq ?_
    refine aw_seq ?_
    refine aw_reg ?_
    refine st_op (ev_assign rfl) rfl rfl rfl ?_
    try show aw _ _ _ _ _ _
    refine aw_block ?_
    have hm73 : My H H none 0 1 (([] : List Int).map u8c) := .nil
    refine aw_keep [0, 4, 5] (l' := (.cons 0 (.slice lA l.length lc) (.cons 4 (.slice none 0 0) (.cons 5 (.int .i64 0) .nil)))) (by repeat (first | exact Up.done | refine Up.then ?_ | refine Up.inBlock ?_)) rfl ?_
    refine aw_iter (α := Nat × Option Addr × Nat × List Int × Heap) (fun a => l.length - a.1) (fun a => (.cons 0 (.slice lA l.length lc) (.cons 4 (.slice a.2.1 a.2.2.2.1.length a.2.2.1) (.cons 5 (.int .i64 (a.1 : Int)) .nil)))) (fun a => a.2.2.2.2) (fun a => (a.1 ≤ l.length) ∧ (a.2.2.2.1 = Spec.encs (l.take a.1)) ∧ (a.2.2.2.1.length ≤ 10 * a.1) ∧ (My H a.2.2.2.2 a.2.1 a.2.2.1 1 (a.2.2.2.1.map u8c)) ∧ (Ext H a.2.2.2.2)) (0, none, 0, ([] : List Int), H) ⟨(show 0 ≤ l.length from Nat.zero_le _), (show ([] : List Int) = Spec.encs (l.take 0) from rfl), (show ([] : List Int).length ≤ 10 * 0 from Nat.le_refl _), (show My H H none 0 1 (([] : List Int).map u8c) from hm73), (show Ext H H from (Ext.refl H))⟩ ?_
    rintro ⟨i, A, cp, b, Hl72⟩ ⟨hi, hb, hbl, hm74, hxl75⟩ ih76
    replace hi : i ≤ l.length := hi
    replace hb : b = Spec.encs (l.take i) := hb
    replace hbl : b.length ≤ 10 * i := hbl
    replace hm74 : My H Hl72 A cp 1 (b.map u8c) := hm74
    replace hxl75 : Ext H Hl72 := hxl75
    show aw _ _ _ (RL _ (.cons 0 (.slice lA l.length lc) (.cons 4 (.slice A b.length cp) (.cons 5 (.int .i64 (i : Int)) .nil)))) Hl72 _
    have Hl72n : H.next ≤ Hl72.next := hxl75.1
    refine aw_seq ?_
    refine aw_seq ?_
    refine aw_reg ?_
    refine st_op (ev_move rfl) rfl rfl rfl ?_
    refine st_op (ev_move rfl) rfl rfl rfl ?_
    refine st_op (ev_lenSl rfl Try.underlying41) rfl rfl rfl ?_
    refine st_op (ev_int rfl rfl rfl) rfl rfl rfl ?_
    try show aw _ _ _ _ _ _
    by_cases hc77 : (decide ((i : Int) < (l.length : Int))) = true
    · refine aw_condT hc77 rfl ?_
      try show aw _ _ _ _ _ _
      have hc77 := of_decide_eq_true hc77
      refine aw_skip ?_
      try show aw _ _ _ _ _ _
      refine aw_seq ?_
      refine aw_block ?_
      refine aw_reg ?_
      refine st_op (ev_move rfl) rfl rfl rfl ?_
      refine st_op (ev_move rfl) rfl rfl rfl ?_
      refine st_op (ev_move rfl) rfl rfl rfl ?_
      have h78 := Row.ext hl hxl75
      have hi79 : 0 ≤ ((i : Int) : Int) := by omega
      have hi80 : ((i : Int) : Int) < ((l.length : Nat) : Int) := by first | omega | (simp only [List.length_append, List.length_cons, List.length_nil, List.length_map, List.length_set, List.length_replicate, Spec.bytesOf_length]; omega) | (simp; omega)
      obtain ⟨x81, hx82⟩ : ∃ e, l[i]? = some e := ⟨_, List.getElem?_eq_getElem (by first | omega | (simp only [List.length_append, List.length_cons, List.length_nil, List.length_map, List.length_set, List.length_replicate, Spec.bytesOf_length]; omega) | (simp; omega))⟩
      have x81b : -9223372036854775808 ≤ x81 ∧ x81 ≤ 9223372036854775807 := (show Spec.Ints l from by first | assumption | exact hLi) _ (List.mem_of_getElem? hx82)
      refine st_op (ev_at rfl rfl h78 (getMap i64c hx82) (by first | rfl | omega | simp) hi79 hi80 el41) rfl rfl rfl ?_
      refine st_op (ev_atL rfl h78 (getMap i64c hx82) one2 rfl) rfl rfl rfl ?_
      refine st_call rfl rfl rfl ent12 rfl rfl rfl ?_
      obtain ⟨_, H84, hs83, A86, c87, hs83v, hm88, hq89, hx85⟩ := num_Put_spec Hl72 H A b cp hm74 (by omega) (by first | omega | (simp only [List.length_append, List.length_cons, List.length_nil, List.length_map, List.length_set, List.length_replicate, Spec.bytesOf_length]; omega) | (simp; omega)) x81 ⟨by omega, by omega⟩
      rw [hs83v] at hs83; clear hs83v
      refine ⟨_, H84, hs83, ?_⟩
      have H84n : Hl72.next ≤ H84.next := hx85.1
      refine st_op (ev_assign rfl) rfl rfl rfl ?_
      try show aw _ _ _ _ _ _
      refine aw_reg ?_
      refine st_op (ev_move rfl) rfl rfl rfl ?_
      refine st_op (ev_int64 (c := (i : Int) + 1) rfl rfl rfl (by omega) (by omega)) rfl rfl rfl ?_
      refine st_op (ev_assign rfl) rfl rfl rfl ?_
      try show aw _ _ _ _ _ _
      have hx90 : Ext H H84 := (Ext.then hxl75 hx85 (fun q hq (e : (H.next ≤ q ∧ q < Hl72.next)) => by omega))
      refine aw_keep [0, 4, 5] (l' := (.cons 0 (.slice lA l.length lc) (.cons 4 (.slice A86 ((b ++ Spec.enc (Spec.zig x81)).length) c87) (.cons 5 (.int .i64 ((i : Int) + 1)) .nil)))) (by repeat (first | exact Up.done | refine Up.then ?_ | refine Up.inBlock ?_)) rfl ?_
      exact ih76 (i + 1, A86, c87, (b ++ Spec.enc (Spec.zig x81)), H84) ⟨(show (i + 1) ≤ l.length from (by omega)), (show (b ++ Spec.enc (Spec.zig x81)) = Spec.encs (l.take (i + 1)) from (by rw [Spec.encs_snoc hx82, ← hb])), (show (b ++ Spec.enc (Spec.zig x81)).length ≤ 10 * (i + 1) from (by rw [List.length_append]; have := Spec.zig_i64 x81b; omega)), (show My H H84 A86 c87 1 ((b ++ Spec.enc (Spec.zig x81)).map u8c) from hm88), (show Ext H H84 from hx90)⟩ (by simp only; omega)
    · rw [Bool.not_eq_true] at hc77; refine aw_condF hc77 rfl ?_
      try show aw _ _ _ _ _ _
      have hc77 := of_decide_eq_false hc77
      refine aw_exit ?_
      try show aw _ _ _ _ _ _
      refine aw_seq ?_
      refine aw_seq ?_
      refine aw_reg ?_
      refine st_op (ev_assign rfl) rfl rfl rfl ?_
      try show aw _ _ _ _ _ _
      refine aw_block ?_
      have hbe : b = Spec.encs l := by rw [hb, List.take_of_length_le (by omega)]
      refine aw_keep [0, 4, 6] (l' := (.cons 0 (.slice lA l.length lc) (.cons 4 (.slice A b.length cp) (.cons 6 (.int .i64 0) .nil)))) (by repeat (first | exact Up.done | refine Up.then ?_ | refine Up.inBlock ?_)) rfl ?_
      refine aw_iter (α := Nat × Option Addr × Nat × List Int × Heap) (fun a => l.length - a.1) (fun a => (.cons 0 (.slice lA l.length lc) (.cons 4 (.slice a.2.1 a.2.2.2.1.length a.2.2.1) (.cons 6 (.int .i64 (a.1 : Int)) .nil)))) (fun a => a.2.2.2.2) (fun a => (a.1 ≤ l.length) ∧ (a.2.2.2.1 = Spec.encs (l.drop a.1)) ∧ (a.2.2.2.1.length ≤ 400) ∧ (Row a.2.2.2.2 a.2.1 a.2.2.1 1 (a.2.2.2.1.map u8c)) ∧ (a.2.2.2.1.length ≤ a.2.2.1) ∧ (Ext Hl72 a.2.2.2.2)) (0, A, cp, b, Hl72) ⟨(show 0 ≤ l.length from Nat.zero_le _), (show b = Spec.encs (l.drop 0) from hbe), (show b.length ≤ 400 from (by omega)), (show Row Hl72 A cp 1 (b.map u8c) from (My.row hm74)), (show b.length ≤ cp from (My.capF hm74 (by first | omega | (simp only [List.length_append, List.length_cons, List.length_nil, List.length_map, List.length_set, List.length_replicate, Spec.bytesOf_length]; omega) | (simp; omega)))), (show Ext Hl72 Hl72 from (Ext.refl Hl72))⟩ ?_
      rintro ⟨j, A2, c2, b2, Hl91⟩ ⟨hj, hbb, hb2, hr92, hr93, hxl94⟩ ih95
      replace hj : j ≤ l.length := hj
      replace hbb : b2 = Spec.encs (l.drop j) := hbb
      replace hb2 : b2.length ≤ 400 := hb2
      replace hr92 : Row Hl91 A2 c2 1 (b2.map u8c) := hr92
      replace hr93 : b2.length ≤ c2 := hr93
      replace hxl94 : Ext Hl72 Hl91 := hxl94
      show aw _ _ _ (RL _ (.cons 0 (.slice lA l.length lc) (.cons 4 (.slice A2 b2.length c2) (.cons 6 (.int .i64 (j : Int)) .nil)))) Hl91 _
      have Hl91n : Hl72.next ≤ Hl91.next := hxl94.1
      have hby : Spec.Bytes b2 := by rw [hbb]; exact Spec.encs_bytes _
      refine aw_seq ?_
      refine aw_seq ?_
      refine aw_reg ?_
      refine st_op (ev_move rfl) rfl rfl rfl ?_
      refine st_op (ev_move rfl) rfl rfl rfl ?_
      refine st_op (ev_lenSl rfl Try.underlying41) rfl rfl rfl ?_
      refine st_op (ev_int rfl rfl rfl) rfl rfl rfl ?_
      try show aw _ _ _ _ _ _
      by_cases hc96 : (decide ((j : Int) < (l.length : Int))) = true
      · refine aw_condT hc96 rfl ?_
        try show aw _ _ _ _ _ _
        have hc96 := of_decide_eq_true hc96
        refine aw_skip ?_
        try show aw _ _ _ _ _ _
        refine aw_seq ?_
        refine aw_block ?_
        refine aw_seq ?_
        refine aw_reg ?_
        refine st_op (ev_move rfl) rfl rfl rfl ?_
        refine st_call rfl rfl rfl ent14 rfl rfl rfl ?_
        obtain ⟨_, H98, hs97, hs97v, hq100, hq101, hq102, hx99⟩ := num_Get_spec Hl91 A2 b2 c2 hr92 hr93 (by first | omega | (simp only [List.length_append, List.length_cons, List.length_nil, List.length_map, List.length_set, List.length_replicate, Spec.bytesOf_length]; omega) | (simp; omega)) (by first | assumption | exact Spec.Bytes.nil | exact Spec.bytes_of _ | (repeat' first | assumption | exact Spec.Bytes.nil | exact Spec.bytes_of _ | exact Spec.enc_bytes _ | exact Spec.four_bytes _ | exact Spec.sealF_bytes (by assumption) | apply Spec.Bytes.append | apply Spec.Bytes.cons (by omega) | apply Spec.Bytes.take | apply Spec.Bytes.drop))
        rw [hs97v] at hs97; clear hs97v
        generalize hR104 : (Spec.numGet 0 0 b2) = r103 at hs97 hq100 hq101 hq102
        obtain ⟨z105, z106, z107⟩ := r103
        dsimp only at hs97 hq100 hq101 hq102
        refine ⟨_, H98, hs97, ?_⟩
        have H98n : Hl91.next ≤ H98.next := hx99.1
        refine st_op (ev_move rfl) rfl rfl rfl ?_
        refine st_op (ev_extract rfl rfl) rfl rfl rfl ?_
        refine st_op (ev_extract rfl rfl) rfl rfl rfl ?_
        refine st_op (ev_extract rfl rfl) rfl rfl rfl ?_
        refine st_op (ev_assign rfl) rfl rfl rfl ?_
        refine st_op (ev_assign rfl) rfl rfl rfl ?_
        refine st_op (ev_assign rfl) rfl rfl rfl ?_
        try show aw _ _ _ _ _ _
        refine aw_seq ?_
        refine aw_seq ?_
        refine aw_reg ?_
        refine st_op (ev_move rfl) rfl rfl rfl ?_
        refine st_op (ev_int rfl rfl rfl) rfl rfl rfl ?_
        refine st_op (ev_move rfl) rfl rfl rfl ?_
        refine st_bool 44 rfl (fun hb108 => ?_) (fun hb108 => ?_)
        ·
          obtain ⟨x109, hx110⟩ : ∃ e, l[j]? = some e := ⟨_, List.getElem?_eq_getElem (by omega)⟩
          have x109b : -9223372036854775808 ≤ x109 ∧ x109 ≤ 9223372036854775807 := (show Spec.Ints l from by first | assumption | exact hLi) _ (List.mem_of_getElem? hx110)
          have hkey := Spec.many_get hbb hx110 x109b hR104
          have hb108 : ¬ (z107 = 0) := by simpa using hb108
          exfalso; omega
        ·
          obtain ⟨x111, hx112⟩ : ∃ e, l[j]? = some e := ⟨_, List.getElem?_eq_getElem (by omega)⟩
          have x111b : -9223372036854775808 ≤ x111 ∧ x111 ≤ 9223372036854775807 := (show Spec.Ints l from by first | assumption | exact hLi) _ (List.mem_of_getElem? hx112)
          have hkey := Spec.many_get hbb hx112 x111b hR104
          have hb108 : (z107 = 0) := by simpa using hb108
          refine st_op (ev_move rfl) rfl rfl rfl ?_
          refine st_op (ev_move rfl) rfl rfl rfl ?_
          refine st_op (ev_move rfl) rfl rfl rfl ?_
          have hx114 : Ext H H98 := (Ext.trans (Ext.trans hxl75 hxl94) hx99)
          have h113 := Row.ext hl hx114
          have hi115 : 0 ≤ ((j : Int) : Int) := by omega
          have hi116 : ((j : Int) : Int) < ((l.length : Nat) : Int) := by first | omega | (simp only [List.length_append, List.length_cons, List.length_nil, List.length_map, List.length_set, List.length_replicate, Spec.bytesOf_length]; omega) | (simp; omega)
          refine st_op (ev_at rfl rfl h113 (getMap i64c hx112) (by first | rfl | omega | simp) hi115 hi116 el41) rfl rfl rfl ?_
          refine st_op (ev_atL rfl h113 (getMap i64c hx112) one2 rfl) rfl rfl rfl ?_
          refine st_op (ev_int rfl rfl rfl) rfl rfl rfl ?_
          refine st_op (ev_pickF rfl rfl) rfl rfl rfl ?_
          refine st_op (ev_move rfl) rfl rfl rfl ?_
          refine st_bool 52 rfl (fun hb117 => ?_) (fun hb117 => ?_)
          ·
            have hb117 : ¬ (z105 = x111) := by simpa using hb117
            exfalso; omega
          ·
            have hb117 : (z105 = x111) := by simpa using hb117
            refine st_op (ev_move rfl) rfl rfl rfl ?_
            refine st_op (ev_int rfl rfl rfl) rfl rfl rfl ?_
            refine st_op (ev_pickF rfl rfl) rfl rfl rfl ?_
            refine st_op (ev_move rfl) rfl rfl rfl ?_
            refine st_bool 56 rfl (fun hb118 => ?_) (fun hb118 => ?_)
            ·
              have hb118 := of_decide_eq_true hb118
              exfalso; omega
            ·
              have hb118 := of_decide_eq_false hb118
              refine st_op (ev_move rfl) rfl rfl rfl ?_
              refine st_op (ev_int rfl rfl rfl) rfl rfl rfl ?_
              refine st_op (ev_pickF rfl rfl) rfl rfl rfl ?_
              try show aw _ _ _ _ _ _
              by_cases hc119 : (decide (z106 > 10)) = true
              · refine aw_condT hc119 rfl ?_
                try show aw _ _ _ _ _ _
                have hc119 := of_decide_eq_true hc119
                exfalso; omega
              · rw [Bool.not_eq_true] at hc119; refine aw_condF hc119 rfl ?_
                try show aw _ _ _ _ _ _
                have hc119 := of_decide_eq_false hc119
                refine aw_skip ?_
                try show aw _ _ _ _ _ _
                refine aw_reg ?_
                refine st_op (ev_move rfl) rfl rfl rfl ?_
                refine st_op (ev_move rfl) rfl rfl rfl ?_
                have h128 := Row.ext hr92 hx99
                obtain ⟨A120, c121, L122, hL123, hl124, hs125, hr126, hc127⟩ := sliceA_typed u8c el22 (by decide) h128 hr93 (lo := some (.int .i64 z106)) (hi := none) (l := (z106).toNat) (h := b2.length) rfl (bound_int (by first | omega | (simp only [List.length_append, List.length_cons, List.length_nil, List.length_map, List.length_set, List.length_replicate, Spec.bytesOf_length]; omega) | (simp; omega)) (by first | omega | (simp only [List.length_append, List.length_cons, List.length_nil, List.length_map, List.length_set, List.length_replicate, Spec.bytesOf_length]; omega) | (simp; omega)) (by first | rfl | omega)) (by first | omega | (simp only [List.length_append, List.length_cons, List.length_nil, List.length_map, List.length_set, List.length_replicate, Spec.bytesOf_length]; omega) | (simp; omega)) (by first | omega | (simp only [List.length_append, List.length_cons, List.length_nil, List.length_map, List.length_set, List.length_replicate, Spec.bytesOf_length]; omega) | (simp; omega))
                refine st_op (ev_slice rfl rfl rfl rfl hs125) rfl rfl rfl ?_
                have hL123b : Spec.Bytes L122 := by rw [hL123]; exact Spec.Bytes.take (Spec.Bytes.drop (by first | assumption | exact Spec.Bytes.nil | exact Spec.bytes_of _ | (repeat' first | assumption | exact Spec.Bytes.nil | exact Spec.bytes_of _ | exact Spec.enc_bytes _ | exact Spec.four_bytes _ | exact Spec.sealF_bytes (by assumption) | apply Spec.Bytes.append | apply Spec.Bytes.cons (by omega) | apply Spec.Bytes.take | apply Spec.Bytes.drop)) _) _
                refine st_op (ev_assign rfl) rfl rfl rfl ?_
                try show aw _ _ _ _ _ _
                refine aw_reg ?_
                refine st_op (ev_move rfl) rfl rfl rfl ?_
                refine st_op (ev_int64 (c := (j : Int) + 1) rfl rfl rfl (by omega) (by omega)) rfl rfl rfl ?_
                refine st_op (ev_assign rfl) rfl rfl rfl ?_
                try show aw _ _ _ _ _ _
                have hx129 : Ext Hl72 H98 := (Ext.trans hxl94 hx99)
                refine aw_keep [0, 4, 6] (l' := (.cons 0 (.slice lA l.length lc) (.cons 4 (.slice A120 L122.length c121) (.cons 6 (.int .i64 ((j : Int) + 1)) .nil)))) (by repeat (first | exact Up.done | refine Up.then ?_ | refine Up.inBlock ?_)) rfl ?_
                exact ih95 (j + 1, A120, c121, L122, H98) ⟨(show (j + 1) ≤ l.length from (by omega)), (show L122 = Spec.encs (l.drop (j + 1)) from (hkey.2.2.2.2.2 _ hL123)), (show L122.length ≤ 400 from (by omega)), (show Row H98 A120 c121 1 (L122.map u8c) from hr126), (show L122.length ≤ c121 from hc127), (show Ext Hl72 H98 from hx129)⟩ (by simp only; omega)
      · rw [Bool.not_eq_true] at hc96; refine aw_condF hc96 rfl ?_
        try show aw _ _ _ _ _ _
        have hc96 := of_decide_eq_false hc96
        refine aw_exit ?_
        try show aw _ _ _ _ _ _
        refine aw_seq ?_
        refine aw_reg ?_
        refine st_op (ev_move rfl) rfl rfl rfl ?_
        refine st_op (ev_lenSl rfl Try.underlying22) rfl rfl rfl ?_
        refine st_op (ev_int rfl rfl rfl) rfl rfl rfl ?_
        refine st_op (ev_assign rfl) rfl rfl rfl ?_
        try show aw _ _ _ _ _ _
        refine aw_ret ?_
        have hx130 : Ext H Hl91 := (Ext.trans hxl75 hxl94)
        have hres : true = ((b2.length : Int) == 0) := by symm; rw [beq_iff_eq, hbb, List.drop_eq_nil_of_le (by omega)]; rfl
        exact ⟨.bool ((b2.length : Int) == 0), rfl, by rw [hres], hx130⟩

end Go.AM
