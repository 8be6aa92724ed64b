/- Part of a machine of its own for this claim: the program's code over memory without draws. -/
import Derived.Test.YtfodghhmglbapaaAmXNetOwn1
set_option linter.unusedVariables false
set_option linter.unusedSimpArgs false
set_option linter.unnecessarySimpa false
set_option linter.unusedVariables false
set_option linter.unusedSimpArgs false
set_option linter.unnecessarySimpa false
namespace Go.AM
open Go Go.Proofs
theorem num_Put_spec (H : Heap) (bH : Heap) (bA : Option Addr) (b : List Int) (bc : Nat) (hb : My bH H bA bc 1 (b.map u8c)) (nb : bH.next ≤ H.next) (lb : b.length ≤ 1099511627756) (n : Int) (hn : -9223372036854775808 ≤ n ∧ n ≤ 9223372036854775807) : ∃ v H', Spec Try.prog 26 [.slice bA b.length bc, .int .i64 n] H v H' ∧ (∃ rA0 rc0, (v = .slice rA0 ((b ++ Spec.enc (Spec.zig n)).length) rc0) ∧ (My bH H' rA0 rc0 1 ((b ++ Spec.enc (Spec.zig n)).map u8c)) ∧ ((Spec.enc (Spec.zig n)).length ≤ 10) ∧ (Fr (fun q => (bH.next ≤ q ∧ q < H.next ∧ ZB H q 1)) H H')) := by
  refine spec_go2 E0_ok 28 (f := 26) Try.func26 rfl rfl rfl ?_
  refine aw_seq ?_
  refine aw_reg ?_
  refine st_op (ev_assign rfl) rfl rfl rfl ?_
  try show aw _ _ _ _ _ _
  refine aw_seq ?_
  refine aw_reg ?_
  refine st_op (ev_move rfl) rfl rfl rfl ?_
  have hw1 : 0 ≤ (IntKind.u64.wrap n) ∧ (IntKind.u64.wrap n) ≤ 18446744073709551615 := wrapU64 _
  refine st_op (ev_convInt Try.underlying2 Try.underlying87 rfl) rfl rfl rfl ?_
  have hw2 : 0 ≤ (Spec.shl .u64 (IntKind.u64.wrap n) 1) ∧ (Spec.shl .u64 (IntKind.u64.wrap n) 1) ≤ 18446744073709551615 := wrapU64 _
  refine st_op (ev_shlV rfl rfl (by omega)) rfl rfl rfl ?_
  refine st_op (ev_assign rfl) rfl rfl rfl ?_
  try show aw _ _ _ _ _ _
  refine aw_seq ?_
  refine aw_seq ?_
  refine aw_reg ?_
  refine st_op (ev_move rfl) rfl rfl rfl ?_
  refine st_op (ev_int rfl rfl rfl) rfl rfl rfl ?_
  try show aw _ _ _ _ _ _
  by_cases hc3 : (decide (n < 0)) = true
  · refine aw_condT hc3 rfl ?_
    try show aw _ _ _ _ _ _
    have hc3 := of_decide_eq_true hc3
    refine aw_reg ?_
    refine st_op (ev_move rfl) rfl rfl rfl ?_
    have hw4 : 0 ≤ (Go.bits .xor .u64 (IntKind.max .u64) (Spec.shl .u64 (IntKind.u64.wrap n) 1)) ∧ (Go.bits .xor .u64 (IntKind.max .u64) (Spec.shl .u64 (IntKind.u64.wrap n) 1)) ≤ 18446744073709551615 := bitsU64 _ _ _
    refine st_op (ev_comU rfl rfl) rfl rfl rfl ?_
    refine st_op (ev_assign rfl) rfl rfl rfl ?_
    try show aw _ _ _ _ _ _
    refine aw_seq ?_
    refine aw_block ?_
    have hz5 : (Go.bits .xor .u64 (IntKind.max .u64) (Spec.shl .u64 (IntKind.u64.wrap n) 1)) = ((Spec.zig n : Nat) : Int) := by first | (rw [shl1_u64]; (try rw [Spec.not_u64 (by omega) (by omega)]); unfold Spec.zig; split <;> omega) | (simp only [Spec.wrap_u64]; (try rw [Spec.not_u64 (by omega) (by omega)]); unfold Spec.zig; split <;> omega)
    have hz5l := Spec.zig_lt hn.1 hn.2
    refine aw_keep [0, 5] (l' := (.cons 0 (.slice bA b.length bc) (.cons 5 (.int .u64 (Go.bits .xor .u64 (IntKind.max .u64) (Spec.shl .u64 (IntKind.u64.wrap n) 1))) .nil))) (by repeat (first | exact Up.done | refine Up.then ?_ | refine Up.inBlock ?_)) rfl ?_
    refine aw_iter (α := Int × Option Addr × Nat × List Int × Nat × Heap) (fun a => a.2.2.2.2.1) (fun a => (.cons 0 (.slice a.2.1 a.2.2.2.1.length a.2.2.1) (.cons 5 (.int .u64 a.1) .nil))) (fun a => a.2.2.2.2.2) (fun a => (a.1 = (a.2.2.2.2.1 : Int)) ∧ (a.2.2.2.1 ++ Spec.enc a.2.2.2.2.1 = b ++ Spec.enc (Spec.zig n)) ∧ (a.2.2.2.2.1 < 18446744073709551616) ∧ (a.2.2.2.1.length + (Spec.enc a.2.2.2.2.1).length ≤ 1099511627770) ∧ (0 ≤ a.1 ∧ a.1 ≤ 18446744073709551615) ∧ (My bH a.2.2.2.2.2 a.2.1 a.2.2.1 1 (a.2.2.2.1.map u8c)) ∧ (Fr (fun q => (bH.next ≤ q ∧ q < H.next ∧ ZB H q 1)) H a.2.2.2.2.2)) ((Go.bits .xor .u64 (IntKind.max .u64) (Spec.shl .u64 (IntKind.u64.wrap n) 1)), bA, bc, b, (Spec.zig n), H) ⟨(show (Go.bits .xor .u64 (IntKind.max .u64) (Spec.shl .u64 (IntKind.u64.wrap n) 1)) = ((Spec.zig n) : Int) from hz5), (show b ++ Spec.enc (Spec.zig n) = b ++ Spec.enc (Spec.zig n) from rfl), (show (Spec.zig n) < 18446744073709551616 from hz5l), (show b.length + (Spec.enc (Spec.zig n)).length ≤ 1099511627770 from (by have := Spec.enc_len10 hz5l; simp; omega)), (show 0 ≤ (Go.bits .xor .u64 (IntKind.max .u64) (Spec.shl .u64 (IntKind.u64.wrap n) 1)) ∧ (Go.bits .xor .u64 (IntKind.max .u64) (Spec.shl .u64 (IntKind.u64.wrap n) 1)) ≤ 18446744073709551615 from ⟨by omega, by omega⟩), (show My bH H bA bc 1 (b.map u8c) from hb), (show Fr (fun q => (bH.next ≤ q ∧ q < H.next ∧ ZB H q 1)) H H from (Fr.refl _ H))⟩ ?_
    rintro ⟨v, A, cp, l, u, Hl6⟩ ⟨hv, hl, hu, hL, hn7, hm8, hxl9⟩ ih10
    replace hv : v = (u : Int) := hv
    replace hl : l ++ Spec.enc u = b ++ Spec.enc (Spec.zig n) := hl
    replace hu : u < 18446744073709551616 := hu
    replace hL : l.length + (Spec.enc u).length ≤ 1099511627770 := hL
    replace hn7 : 0 ≤ v ∧ v ≤ 18446744073709551615 := hn7
    replace hm8 : My bH Hl6 A cp 1 (l.map u8c) := hm8
    replace hxl9 : Fr (fun q => (bH.next ≤ q ∧ q < H.next ∧ ZB H q 1)) H Hl6 := hxl9
    show aw _ _ _ (RL _ (.cons 0 (.slice A l.length cp) (.cons 5 (.int .u64 v) .nil))) Hl6 _
    have Hl6n : H.next ≤ Hl6.next := hxl9.1
    have hpos := Spec.enc_pos u
    refine aw_seq ?_
    refine aw_seq ?_
    refine aw_reg ?_
    refine st_op (ev_move rfl) rfl rfl rfl ?_
    refine st_op (ev_int rfl rfl rfl) rfl rfl rfl ?_
    try show aw _ _ _ _ _ _
    by_cases hc11 : (decide (v > 127)) = true
    · refine aw_condT hc11 rfl ?_
      try show aw _ _ _ _ _ _
      have hc11 := of_decide_eq_true hc11
      refine aw_skip ?_
      try show aw _ _ _ _ _ _
      refine aw_block ?_
      refine aw_seq ?_
      refine aw_reg ?_
      refine st_op (ev_move rfl) rfl rfl rfl ?_
      refine st_op (ev_move rfl) rfl rfl rfl ?_
      have hw12 : 0 ≤ (IntKind.u8.wrap v) ∧ (IntKind.u8.wrap v) ≤ 255 := wrapU8 _
      refine st_op (ev_convInt Try.underlying87 Try.underlying5 rfl) rfl rfl rfl ?_
      have hw13 : 0 ≤ (Go.bits .or .u8 (IntKind.u8.wrap v) 128) ∧ (Go.bits .or .u8 (IntKind.u8.wrap v) 128) ≤ 255 := bitsU8 _ _ _
      refine st_op (ev_bits rfl rfl rfl) rfl rfl rfl ?_
      obtain ⟨b14, H15, he16, b14e, H15n_, hm18, f17⟩ := mem_lit Hl6 (xs := ([.int .u8 (Go.bits .or .u8 (IntKind.u8.wrap v) 128)] : List Value)) (m := 1) (rows := [[.int .u8 (Go.bits .or .u8 (IntKind.u8.wrap v) 128)]]) rfl eok29 (by decide) (by decide) zf5 rfl (allLen rfl) rfl
      replace hm18 : My Hl6 H15 (some ⟨b14, 0, none⟩) 1 1 ([(Go.bits .or .u8 (IntKind.u8.wrap v) 128)].map u8c) := hm18
      refine st_op (he16 _ _ _ _ _ _ _ _ rfl) rfl rfl rfl ?_
      have hx19 : Ext Hl6 H15 := Ext.new (by omega) H15n_ f17
      have H15n : Hl6.next ≤ H15.next := hx19.1
      have h20 := My.ext hm8 hx19
      obtain ⟨A21, c22, H23, W24, he25, hm26, hf27⟩ := mem_append (f := u8c) (old := l) (new := [(Go.bits .or .u8 (IntKind.u8.wrap v) 128)]) (m := l.length) (mx := 1) (c := cp) (by first | rfl | simp) (by first | rfl | simp) eok29 (by decide) hm8 h20 (by omega) (((My.row hm18)).srcF (by decide) (by first | rfl | simp)) rfl u8c_len u8c_one (by first | omega | (simp only [List.length_append, List.length_cons, List.length_nil, List.length_map, List.length_set, List.length_replicate, Spec.bytesOf_length]; omega) | (simp; omega)) (by first | omega | (simp only [List.length_append, List.length_cons, List.length_nil, List.length_map, List.length_set, List.length_replicate, Spec.bytesOf_length]; omega) | (simp; omega))
      refine st_op (he25 _ _ _ _ _ _ _ _ _ _ rfl rfl isrow29) rfl rfl rfl ?_
      have H23n : H15.next ≤ H23.next := hf27.1
      refine st_op (ev_assign rfl) rfl rfl rfl ?_
      try show aw _ _ _ _ _ _
      refine aw_reg ?_
      refine st_op (ev_move rfl) rfl rfl rfl ?_
      refine st_op (ev_shr (a := v) (c := 128) rfl rfl (by decide) (by decide)) rfl rfl rfl ?_
      refine st_op (ev_assign rfl) rfl rfl rfl ?_
      try show aw _ _ _ _ _ _
      refine aw_keep [0, 5] (l' := (.cons 0 (.slice A21 ((l ++ [(Go.bits .or .u8 (IntKind.u8.wrap v) 128)]).length) c22) (.cons 5 (.int .u64 (v / 128)) .nil))) (by repeat (first | exact Up.done | refine Up.then ?_ | refine Up.inBlock ?_)) rfl ?_
      exact ih10 ((v / 128), A21, c22, (l ++ [(Go.bits .or .u8 (IntKind.u8.wrap v) 128)]), (u / 128), H23) ⟨(show (v / 128) = ((u / 128) : Int) from (by subst hv; omega)), (show (l ++ [(Go.bits .or .u8 (IntKind.u8.wrap v) 128)]) ++ Spec.enc (u / 128) = b ++ Spec.enc (Spec.zig n) from (by rw [← hl, Spec.enc_step (u := u) (by omega), List.append_assoc]; congr 2; subst hv; rw [List.cons_append, List.nil_append]; congr 1 <;> first | (rw [IntKind.wrap_u8, Spec.or128 (by omega) (by omega)]; omega) | (rw [IntKind.wrap_u8]; omega) | omega)), (show (u / 128) < 18446744073709551616 from (by omega)), (show (l ++ [(Go.bits .or .u8 (IntKind.u8.wrap v) 128)]).length + (Spec.enc (u / 128)).length ≤ 1099511627770 from (by rw [Spec.enc_step (u := u) (by omega), List.length_cons] at hL; rw [List.length_append, List.length_singleton]; omega)), (show 0 ≤ (v / 128) ∧ (v / 128) ≤ 18446744073709551615 from ⟨by omega, by omega⟩), (show My bH H23 A21 c22 1 ((l ++ [(Go.bits .or .u8 (IntKind.u8.wrap v) 128)]).map u8c) from hm26), (show Fr (fun q => (bH.next ≤ q ∧ q < H.next ∧ ZB H q 1)) H H23 from (Fr.transG (Fr.trans (Fr.transG (Fr.refl (fun q => (bH.next ≤ q ∧ q < H.next ∧ ZB H q 1)) H) hxl9 (fun q hq hE e => (⟨by omega, by omega, ZB.back hE e.2.2⟩))) (hx19.fr fun _ => False) (fun q hq (e : False) => e.elim)) hf27 (fun q hq hE e => (⟨by omega, by omega, ZB.back hE e.2.2⟩))))⟩ (by simp only; omega)
    · rw [Bool.not_eq_true] at hc11; refine aw_condF hc11 rfl ?_
      try show aw _ _ _ _ _ _
      have hc11 := of_decide_eq_false hc11
      refine aw_exit ?_
      try show aw _ _ _ _ _ _
      refine aw_seq ?_
      refine aw_reg ?_
      refine st_op (ev_move rfl) rfl rfl rfl ?_
      refine st_op (ev_move rfl) rfl rfl rfl ?_
      refine st_op (ev_convI Try.underlying87 Try.underlying5 rfl (wrU8 (by omega) (by omega))) rfl rfl rfl ?_
      obtain ⟨b28, H29, he30, b28e, H29n_, hm32, f31⟩ := mem_lit Hl6 (xs := ([.int .u8 v] : List Value)) (m := 1) (rows := [[.int .u8 v]]) rfl eok29 (by decide) (by decide) zf5 rfl (allLen rfl) rfl
      replace hm32 : My Hl6 H29 (some ⟨b28, 0, none⟩) 1 1 ([v].map u8c) := hm32
      refine st_op (he30 _ _ _ _ _ _ _ _ rfl) rfl rfl rfl ?_
      have hx33 : Ext Hl6 H29 := Ext.new (by omega) H29n_ f31
      have H29n : Hl6.next ≤ H29.next := hx33.1
      have h34 := My.ext hm8 hx33
      obtain ⟨A35, c36, H37, W38, he39, hm40, hf41⟩ := mem_append (f := u8c) (old := l) (new := [v]) (m := l.length) (mx := 1) (c := cp) (by first | rfl | simp) (by first | rfl | simp) eok29 (by decide) hm8 h34 (by omega) (((My.row hm32)).srcF (by decide) (by first | rfl | simp)) rfl u8c_len u8c_one (by first | omega | (simp only [List.length_append, List.length_cons, List.length_nil, List.length_map, List.length_set, List.length_replicate, Spec.bytesOf_length]; omega) | (simp; omega)) (by first | omega | (simp only [List.length_append, List.length_cons, List.length_nil, List.length_map, List.length_set, List.length_replicate, Spec.bytesOf_length]; omega) | (simp; omega))
      refine st_op (he39 _ _ _ _ _ _ _ _ _ _ rfl rfl isrow29) rfl rfl rfl ?_
      have H37n : H29.next ≤ H37.next := hf41.1
      refine st_op (ev_assign rfl) rfl rfl rfl ?_
      try show aw _ _ _ _ _ _
      refine aw_ret ?_
      have hres : (b ++ Spec.enc (Spec.zig n)) = (l ++ [v]) := by rw [← hl, Spec.enc_small (u := u) (by omega)]; congr 2; subst hv; first | done | omega | (rw [IntKind.wrap_u8]; omega)
      exact ⟨.slice A35 ((l ++ [v]).length) c36, rfl, A35, c36, by first | (rw [hres]; first | done | rfl | simp; done) | rfl, (by rw [hres]; exact hm40), (by exact Spec.zig_i64 hn), (Fr.transG (Fr.trans (Fr.transG (Fr.refl (fun q => (bH.next ≤ q ∧ q < H.next ∧ ZB H q 1)) H) hxl9 (fun q hq hE e => (⟨by omega, by omega, ZB.back hE e.2.2⟩))) (hx33.fr fun _ => False) (fun q hq (e : False) => e.elim)) hf41 (fun q hq hE e => (⟨by omega, by omega, ZB.back hE e.2.2⟩)))⟩
  · rw [Bool.not_eq_true] at hc3; refine aw_condF hc3 rfl ?_
    try show aw _ _ _ _ _ _
    have hc3 := of_decide_eq_false hc3
    refine aw_skip ?_
    try show aw _ _ _ _ _ _
    refine aw_seq ?_
    refine aw_block ?_
    have hz42 : (Spec.shl .u64 (IntKind.u64.wrap n) 1) = ((Spec.zig n : Nat) : Int) := by first | (rw [shl1_u64]; (try rw [Spec.not_u64 (by omega) (by omega)]); unfold Spec.zig; split <;> omega) | (simp only [Spec.wrap_u64]; (try rw [Spec.not_u64 (by omega) (by omega)]); unfold Spec.zig; split <;> omega)
    have hz42l := Spec.zig_lt hn.1 hn.2
    refine aw_keep [0, 5] (l' := (.cons 0 (.slice bA b.length bc) (.cons 5 (.int .u64 (Spec.shl .u64 (IntKind.u64.wrap n) 1)) .nil))) (by repeat (first | exact Up.done | refine Up.then ?_ | refine Up.inBlock ?_)) rfl ?_
    refine aw_iter (α := Int × Option Addr × Nat × List Int × Nat × Heap) (fun a => a.2.2.2.2.1) (fun a => (.cons 0 (.slice a.2.1 a.2.2.2.1.length a.2.2.1) (.cons 5 (.int .u64 a.1) .nil))) (fun a => a.2.2.2.2.2) (fun a => (a.1 = (a.2.2.2.2.1 : Int)) ∧ (a.2.2.2.1 ++ Spec.enc a.2.2.2.2.1 = b ++ Spec.enc (Spec.zig n)) ∧ (a.2.2.2.2.1 < 18446744073709551616) ∧ (a.2.2.2.1.length + (Spec.enc a.2.2.2.2.1).length ≤ 1099511627770) ∧ (0 ≤ a.1 ∧ a.1 ≤ 18446744073709551615) ∧ (My bH a.2.2.2.2.2 a.2.1 a.2.2.1 1 (a.2.2.2.1.map u8c)) ∧ (Fr (fun q => (bH.next ≤ q ∧ q < H.next ∧ ZB H q 1)) H a.2.2.2.2.2)) ((Spec.shl .u64 (IntKind.u64.wrap n) 1), bA, bc, b, (Spec.zig n), H) ⟨(show (Spec.shl .u64 (IntKind.u64.wrap n) 1) = ((Spec.zig n) : Int) from hz42), (show b ++ Spec.enc (Spec.zig n) = b ++ Spec.enc (Spec.zig n) from rfl), (show (Spec.zig n) < 18446744073709551616 from hz42l), (show b.length + (Spec.enc (Spec.zig n)).length ≤ 1099511627770 from (by have := Spec.enc_len10 hz42l; simp; omega)), (show 0 ≤ (Spec.shl .u64 (IntKind.u64.wrap n) 1) ∧ (Spec.shl .u64 (IntKind.u64.wrap n) 1) ≤ 18446744073709551615 from ⟨by omega, by omega⟩), (show My bH H bA bc 1 (b.map u8c) from hb), (show Fr (fun q => (bH.next ≤ q ∧ q < H.next ∧ ZB H q 1)) H H from (Fr.refl _ H))⟩ ?_
    rintro ⟨v, A, cp, l, u, Hl43⟩ ⟨hv, hl, hu, hL, hn44, hm45, hxl46⟩ ih47
    replace hv : v = (u : Int) := hv
    replace hl : l ++ Spec.enc u = b ++ Spec.enc (Spec.zig n) := hl
    replace hu : u < 18446744073709551616 := hu
    replace hL : l.length + (Spec.enc u).length ≤ 1099511627770 := hL
    replace hn44 : 0 ≤ v ∧ v ≤ 18446744073709551615 := hn44
    replace hm45 : My bH Hl43 A cp 1 (l.map u8c) := hm45
    replace hxl46 : Fr (fun q => (bH.next ≤ q ∧ q < H.next ∧ ZB H q 1)) H Hl43 := hxl46
    show aw _ _ _ (RL _ (.cons 0 (.slice A l.length cp) (.cons 5 (.int .u64 v) .nil))) Hl43 _
    have Hl43n : H.next ≤ Hl43.next := hxl46.1
    have hpos := Spec.enc_pos u
    refine aw_seq ?_
    refine aw_seq ?_
    refine aw_reg ?_
    refine st_op (ev_move rfl) rfl rfl rfl ?_
    refine st_op (ev_int rfl rfl rfl) rfl rfl rfl ?_
    try show aw _ _ _ _ _ _
    by_cases hc48 : (decide (v > 127)) = true
    · refine aw_condT hc48 rfl ?_
      try show aw _ _ _ _ _ _
      have hc48 := of_decide_eq_true hc48
      refine aw_skip ?_
      try show aw _ _ _ _ _ _
      refine aw_block ?_
      refine aw_seq ?_
      refine aw_reg ?_
      refine st_op (ev_move rfl) rfl rfl rfl ?_
      refine st_op (ev_move rfl) rfl rfl rfl ?_
      have hw49 : 0 ≤ (IntKind.u8.wrap v) ∧ (IntKind.u8.wrap v) ≤ 255 := wrapU8 _
      refine st_op (ev_convInt Try.underlying87 Try.underlying5 rfl) rfl rfl rfl ?_
      have hw50 : 0 ≤ (Go.bits .or .u8 (IntKind.u8.wrap v) 128) ∧ (Go.bits .or .u8 (IntKind.u8.wrap v) 128) ≤ 255 := bitsU8 _ _ _
      refine st_op (ev_bits rfl rfl rfl) rfl rfl rfl ?_
      obtain ⟨b51, H52, he53, b51e, H52n_, hm55, f54⟩ := mem_lit Hl43 (xs := ([.int .u8 (Go.bits .or .u8 (IntKind.u8.wrap v) 128)] : List Value)) (m := 1) (rows := [[.int .u8 (Go.bits .or .u8 (IntKind.u8.wrap v) 128)]]) rfl eok29 (by decide) (by decide) zf5 rfl (allLen rfl) rfl
      replace hm55 : My Hl43 H52 (some ⟨b51, 0, none⟩) 1 1 ([(Go.bits .or .u8 (IntKind.u8.wrap v) 128)].map u8c) := hm55
      refine st_op (he53 _ _ _ _ _ _ _ _ rfl) rfl rfl rfl ?_
      have hx56 : Ext Hl43 H52 := Ext.new (by omega) H52n_ f54
      have H52n : Hl43.next ≤ H52.next := hx56.1
      have h57 := My.ext hm45 hx56
      obtain ⟨A58, c59, H60, W61, he62, hm63, hf64⟩ := mem_append (f := u8c) (old := l) (new := [(Go.bits .or .u8 (IntKind.u8.wrap v) 128)]) (m := l.length) (mx := 1) (c := cp) (by first | rfl | simp) (by first | rfl | simp) eok29 (by decide) hm45 h57 (by omega) (((My.row hm55)).srcF (by decide) (by first | rfl | simp)) rfl u8c_len u8c_one (by first | omega | (simp only [List.length_append, List.length_cons, List.length_nil, List.length_map, List.length_set, List.length_replicate, Spec.bytesOf_length]; omega) | (simp; omega)) (by first | omega | (simp only [List.length_append, List.length_cons, List.length_nil, List.length_map, List.length_set, List.length_replicate, Spec.bytesOf_length]; omega) | (simp; omega))
      refine st_op (he62 _ _ _ _ _ _ _ _ _ _ rfl rfl isrow29) rfl rfl rfl ?_
      have H60n : H52.next ≤ H60.next := hf64.1
      refine st_op (ev_assign rfl) rfl rfl rfl ?_
      try show aw _ _ _ _ _ _
      refine aw_reg ?_
      refine st_op (ev_move rfl) rfl rfl rfl ?_
      refine st_op (ev_shr (a := v) (c := 128) rfl rfl (by decide) (by decide)) rfl rfl rfl ?_
      refine st_op (ev_assign rfl) rfl rfl rfl ?_
      try show aw _ _ _ _ _ _
      refine aw_keep [0, 5] (l' := (.cons 0 (.slice A58 ((l ++ [(Go.bits .or .u8 (IntKind.u8.wrap v) 128)]).length) c59) (.cons 5 (.int .u64 (v / 128)) .nil))) (by repeat (first | exact Up.done | refine Up.then ?_ | refine Up.inBlock ?_)) rfl ?_
      exact ih47 ((v / 128), A58, c59, (l ++ [(Go.bits .or .u8 (IntKind.u8.wrap v) 128)]), (u / 128), H60) ⟨(show (v / 128) = ((u / 128) : Int) from (by subst hv; omega)), (show (l ++ [(Go.bits .or .u8 (IntKind.u8.wrap v) 128)]) ++ Spec.enc (u / 128) = b ++ Spec.enc (Spec.zig n) from (by rw [← hl, Spec.enc_step (u := u) (by omega), List.append_assoc]; congr 2; subst hv; rw [List.cons_append, List.nil_append]; congr 1 <;> first | (rw [IntKind.wrap_u8, Spec.or128 (by omega) (by omega)]; omega) | (rw [IntKind.wrap_u8]; omega) | omega)), (show (u / 128) < 18446744073709551616 from (by omega)), (show (l ++ [(Go.bits .or .u8 (IntKind.u8.wrap v) 128)]).length + (Spec.enc (u / 128)).length ≤ 1099511627770 from (by rw [Spec.enc_step (u := u) (by omega), List.length_cons] at hL; rw [List.length_append, List.length_singleton]; omega)), (show 0 ≤ (v / 128) ∧ (v / 128) ≤ 18446744073709551615 from ⟨by omega, by omega⟩), (show My bH H60 A58 c59 1 ((l ++ [(Go.bits .or .u8 (IntKind.u8.wrap v) 128)]).map u8c) from hm63), (show Fr (fun q => (bH.next ≤ q ∧ q < H.next ∧ ZB H q 1)) H H60 from (Fr.transG (Fr.trans (Fr.transG (Fr.refl (fun q => (bH.next ≤ q ∧ q < H.next ∧ ZB H q 1)) H) hxl46 (fun q hq hE e => (⟨by omega, by omega, ZB.back hE e.2.2⟩))) (hx56.fr fun _ => False) (fun q hq (e : False) => e.elim)) hf64 (fun q hq hE e => (⟨by omega, by omega, ZB.back hE e.2.2⟩))))⟩ (by simp only; omega)
    · rw [Bool.not_eq_true] at hc48; refine aw_condF hc48 rfl ?_
      try show aw _ _ _ _ _ _
      have hc48 := of_decide_eq_false hc48
      refine aw_exit ?_
      try show aw _ _ _ _ _ _
      refine aw_seq ?_
      refine aw_reg ?_
      refine st_op (ev_move rfl) rfl rfl rfl ?_
      refine st_op (ev_move rfl) rfl rfl rfl ?_
      refine st_op (ev_convI Try.underlying87 Try.underlying5 rfl (wrU8 (by omega) (by omega))) rfl rfl rfl ?_
      obtain ⟨b65, H66, he67, b65e, H66n_, hm69, f68⟩ := mem_lit Hl43 (xs := ([.int .u8 v] : List Value)) (m := 1) (rows := [[.int .u8 v]]) rfl eok29 (by decide) (by decide) zf5 rfl (allLen rfl) rfl
      replace hm69 : My Hl43 H66 (some ⟨b65, 0, none⟩) 1 1 ([v].map u8c) := hm69
      refine st_op (he67 _ _ _ _ _ _ _ _ rfl) rfl rfl rfl ?_
      have hx70 : Ext Hl43 H66 := Ext.new (by omega) H66n_ f68
      have H66n : Hl43.next ≤ H66.next := hx70.1
      have h71 := My.ext hm45 hx70
      obtain ⟨A72, c73, H74, W75, he76, hm77, hf78⟩ := mem_append (f := u8c) (old := l) (new := [v]) (m := l.length) (mx := 1) (c := cp) (by first | rfl | simp) (by first | rfl | simp) eok29 (by decide) hm45 h71 (by omega) (((My.row hm69)).srcF (by decide) (by first | rfl | simp)) rfl u8c_len u8c_one (by first | omega | (simp only [List.length_append, List.length_cons, List.length_nil, List.length_map, List.length_set, List.length_replicate, Spec.bytesOf_length]; omega) | (simp; omega)) (by first | omega | (simp only [List.length_append, List.length_cons, List.length_nil, List.length_map, List.length_set, List.length_replicate, Spec.bytesOf_length]; omega) | (simp; omega))
      refine st_op (he76 _ _ _ _ _ _ _ _ _ _ rfl rfl isrow29) rfl rfl rfl ?_
      have H74n : H66.next ≤ H74.next := hf78.1
      refine st_op (ev_assign rfl) rfl rfl rfl ?_
      try show aw _ _ _ _ _ _
      refine aw_ret ?_
      have hres : (b ++ Spec.enc (Spec.zig n)) = (l ++ [v]) := by rw [← hl, Spec.enc_small (u := u) (by omega)]; congr 2; subst hv; first | done | omega | (rw [IntKind.wrap_u8]; omega)
      exact ⟨.slice A72 ((l ++ [v]).length) c73, rfl, A72, c73, by first | (rw [hres]; first | done | rfl | simp; done) | rfl, (by rw [hres]; exact hm77), (by exact Spec.zig_i64 hn), (Fr.transG (Fr.trans (Fr.transG (Fr.refl (fun q => (bH.next ≤ q ∧ q < H.next ∧ ZB H q 1)) H) hxl46 (fun q hq hE e => (⟨by omega, by omega, ZB.back hE e.2.2⟩))) (hx70.fr fun _ => False) (fun q hq (e : False) => e.elim)) hf78 (fun q hq hE e => (⟨by omega, by omega, ZB.back hE e.2.2⟩)))⟩
theorem num_PutText_spec (H : Heap) (bH : Heap) (bA : Option Addr) (b : List Int) (bc : Nat) (hb : My bH H bA bc 1 (b.map u8c)) (nb : bH.next ≤ H.next) (lb : b.length ≤ 824633720832) (s : ByteArray) (hs : s.size ≤ 137438953472) : ∃ v H', Spec Try.prog 61 [.slice bA b.length bc, .string s] H v H' ∧ (∃ rA0 rc0, (v = .slice rA0 ((b ++ Spec.enc (Spec.zig (s.size : Int)) ++ Spec.bytesOf s).length) rc0) ∧ (My bH H' rA0 rc0 1 ((b ++ Spec.enc (Spec.zig (s.size : Int)) ++ Spec.bytesOf s).map u8c)) ∧ ((Spec.enc (Spec.zig (s.size : Int))).length ≤ 10) ∧ (Fr (fun q => (bH.next ≤ q ∧ q < H.next ∧ ZB H q 1)) H H')) := by
  refine spec_go2 E0_ok 11 (f := 61) Try.func61 rfl rfl rfl ?_
  refine aw_seq ?_
  refine aw_reg ?_
  refine st_op (ev_assign rfl) rfl rfl rfl ?_
  try show aw _ _ _ _ _ _
  refine aw_seq ?_
  refine aw_reg ?_
  refine st_op (ev_move rfl) rfl rfl rfl ?_
  refine st_op (ev_move rfl) rfl rfl rfl ?_
  refine st_op (ev_lenStr rfl Try.underlying9) rfl rfl rfl ?_
  refine st_call rfl rfl rfl ent26 rfl rfl rfl ?_
  obtain ⟨_, H2, hs1, A4, c5, hs1v, hm6, hq7, hx3⟩ := num_Put_spec H bH bA b bc hb (by omega) (by first | omega | (simp only [List.length_append, List.length_cons, List.length_nil, List.length_map, List.length_set, List.length_replicate, Spec.bytesOf_length]; omega) | (simp; omega)) ((s).size : Int) ⟨by omega, by omega⟩
  rw [hs1v] at hs1; clear hs1v
  refine ⟨_, H2, hs1, ?_⟩
  have H2n : H.next ≤ H2.next := hx3.1
  refine st_op (ev_move rfl) rfl rfl rfl ?_
  obtain ⟨A8, c9, H10, W11, he12, hm13, hf14⟩ := mem_append (f := u8c) (old := (b ++ Spec.enc (Spec.zig ((s).size : Int)))) (new := (Spec.bytesOf s)) (m := (b ++ Spec.enc (Spec.zig ((s).size : Int))).length) (mx := (Spec.bytesOf s).length) (c := c5) (by first | rfl | simp) (by first | rfl | simp) eok29 (by decide) hm6 hm6 (by omega) (str_src s) (by simp [lenA, Spec.bytesOf_length]) u8c_len u8c_one (by first | omega | (simp only [List.length_append, List.length_cons, List.length_nil, List.length_map, List.length_set, List.length_replicate, Spec.bytesOf_length]; omega) | (simp; omega)) (by first | omega | (simp only [List.length_append, List.length_cons, List.length_nil, List.length_map, List.length_set, List.length_replicate, Spec.bytesOf_length]; omega) | (simp; omega))
  refine st_op (he12 _ _ _ _ _ _ _ _ _ _ rfl rfl isrow9) rfl rfl rfl ?_
  have H10n : H2.next ≤ H10.next := hf14.1
  refine st_op (ev_assign rfl) rfl rfl rfl ?_
  try show aw _ _ _ _ _ _
  refine aw_ret ?_
  have hres : (b ++ Spec.enc (Spec.zig (s.size : Int)) ++ Spec.bytesOf s) = ((b ++ Spec.enc (Spec.zig ((s).size : Int))) ++ (Spec.bytesOf s)) := by rfl
  exact ⟨.slice A8 (((b ++ Spec.enc (Spec.zig ((s).size : Int))) ++ (Spec.bytesOf s)).length) c9, rfl, A8, c9, by first | (rw [hres]; first | done | rfl | simp; done) | rfl, (by rw [hres]; exact hm13), (by exact Spec.zig_i64 ⟨by omega, by omega⟩), (Fr.transG (Fr.transG (Fr.refl (fun q => (bH.next ≤ q ∧ q < H.next ∧ ZB H q 1)) H) hx3 (fun q hq hE e => (⟨by omega, by omega, ZB.back hE e.2.2⟩))) hf14 (fun q hq hE e => (⟨by omega, by omega, ZB.back hE e.2.2⟩)))⟩
theorem crc_More_spec (H : Heap) (s : Int) (hs : 0 ≤ s ∧ s ≤ 4294967295) (bA : Option Addr) (b : List Int) (bc : Nat) (hb : Row H bA bc 1 (b.map u8c)) (cb : b.length ≤ bc) (lb : b.length ≤ 1099511627776) (bb : Spec.Bytes b) : ∃ v H', Spec Try.prog 46 [.int .u32 s, .slice bA b.length bc] H v H' ∧ ((v = .int .u32 ((Spec.crcMore s.toNat b : Nat) : Int)) ∧ (0 ≤ ((Spec.crcMore s.toNat b : Nat) : Int) ∧ ((Spec.crcMore s.toNat b : Nat) : Int) ≤ 4294967295) ∧ (Ext H H')) := by
  refine spec_go2 E0_ok 33 (f := 46) Try.func46 rfl rfl rfl ?_
  refine aw_seq ?_
  refine aw_reg ?_
  refine st_op (ev_assign rfl) rfl rfl rfl ?_
  try show aw _ _ _ _ _ _
  refine aw_seq ?_
  refine aw_reg ?_
  refine st_op (ev_move rfl) rfl rfl rfl ?_
  have hw1 : 0 ≤ (Go.bits .xor .u32 (IntKind.max .u32) s) ∧ (Go.bits .xor .u32 (IntKind.max .u32) s) ≤ 4294967295 := bitsU32 _ _ _
  refine st_op (ev_comU rfl rfl) rfl rfl rfl ?_
  refine st_op (ev_assign rfl) rfl rfl rfl ?_
  try show aw _ _ _ _ _ _
  refine aw_seq ?_
  refine aw_seq ?_
  refine aw_reg ?_
  refine st_op (ev_move rfl) rfl rfl rfl ?_
  refine st_op (ev_lenSl rfl Try.underlying29) rfl rfl rfl ?_
  refine st_op (ev_move rfl) rfl rfl rfl ?_
  try show aw _ _ _ _ _ _
  refine aw_block ?_
  refine aw_keep [5, 10, 11, 12] (l' := (.cons 5 (.int .u32 (Go.bits .xor .u32 (IntKind.max .u32) s)) (.cons 10 (.slice bA b.length bc) (.cons 11 (.int .i64 (b.length : Int)) (.cons 12 (.int .i64 0) .nil))))) (by repeat (first | exact Up.done | refine Up.then ?_ | refine Up.inBlock ?_)) rfl ?_
  refine aw_iter (α := Nat × Int × Heap) (fun a => b.length - a.1) (fun a => (.cons 5 (.int .u32 a.2.1) (.cons 10 (.slice bA b.length bc) (.cons 11 (.int .i64 (b.length : Int)) (.cons 12 (.int .i64 (a.1 : Int)) .nil))))) (fun a => a.2.2) (fun a => (a.1 ≤ b.length) ∧ (Spec.crcRun (4294967295 - s.toNat) b = Spec.crcRun a.2.1.toNat (b.drop a.1)) ∧ (0 ≤ a.2.1 ∧ a.2.1 ≤ 4294967295) ∧ (Ext H a.2.2)) (0, (Go.bits .xor .u32 (IntKind.max .u32) s), H) ⟨(show 0 ≤ b.length from Nat.zero_le _), (show Spec.crcRun (4294967295 - s.toNat) b = Spec.crcRun (Go.bits .xor .u32 (IntKind.max .u32) s).toNat (b.drop 0) from (by first | rfl | (rw [Spec.not_u32 hs.1 (by omega), List.drop_zero]; congr 1; omega))), (show 0 ≤ (Go.bits .xor .u32 (IntKind.max .u32) s) ∧ (Go.bits .xor .u32 (IntKind.max .u32) s) ≤ 4294967295 from ⟨by omega, by omega⟩), (show Ext H H from (Ext.refl H))⟩ ?_
  rintro ⟨i, x, Hl2⟩ ⟨hi, hx, hn3, hxl4⟩ ih5
  replace hi : i ≤ b.length := hi
  replace hx : Spec.crcRun (4294967295 - s.toNat) b = Spec.crcRun x.toNat (b.drop i) := hx
  replace hn3 : 0 ≤ x ∧ x ≤ 4294967295 := hn3
  replace hxl4 : Ext H Hl2 := hxl4
  show aw _ _ _ (RL _ (.cons 5 (.int .u32 x) (.cons 10 (.slice bA b.length bc) (.cons 11 (.int .i64 (b.length : Int)) (.cons 12 (.int .i64 (i : Int)) .nil))))) Hl2 _
  have Hl2n : H.next ≤ Hl2.next := hxl4.1
  refine aw_seq ?_
  refine aw_reg ?_
  refine st_op (ev_int rfl rfl rfl) rfl rfl rfl ?_
  try show aw _ _ _ _ _ _
  refine aw_seq ?_
  by_cases hc6 : (decide ((i : Int) < (b.length : Int))) = true
  · refine aw_condT hc6 rfl ?_
    try show aw _ _ _ _ _ _
    have hc6 := of_decide_eq_true hc6
    refine aw_skip ?_
    try show aw _ _ _ _ _ _
    refine aw_seq ?_
    refine aw_block ?_
    refine aw_seq ?_
    refine aw_reg ?_
    have h7 := Row.ext hb hxl4
    have hi8 : 0 ≤ ((i : Int) : Int) := by omega
    have hi9 : ((i : Int) : Int) < ((b.length : Nat) : Int) := by first | omega | (simp only [List.length_append, List.length_cons, List.length_nil, List.length_map, List.length_set, List.length_replicate, Spec.bytesOf_length]; omega) | (simp; omega)
    obtain ⟨x10, hx11⟩ : ∃ e, b[i]? = some e := ⟨_, List.getElem?_eq_getElem (by first | omega | (simp only [List.length_append, List.length_cons, List.length_nil, List.length_map, List.length_set, List.length_replicate, Spec.bytesOf_length]; omega) | (simp; omega))⟩
    have x10b : 0 ≤ x10 ∧ x10 < 256 := ((by first | assumption | exact Spec.Bytes.nil | exact Spec.bytes_of _ | (repeat' first | assumption | exact Spec.Bytes.nil | exact Spec.bytes_of _ | exact Spec.enc_bytes _ | exact Spec.four_bytes _ | exact Spec.sealF_bytes (by assumption) | apply Spec.Bytes.append | apply Spec.Bytes.cons (by omega) | apply Spec.Bytes.take | apply Spec.Bytes.drop)) : Spec.Bytes b) _ (List.mem_of_getElem? hx11)
    refine st_op (ev_at rfl rfl h7 (getMap u8c hx11) (by first | rfl | omega | simp) hi8 hi9 el29) rfl rfl rfl ?_
    refine st_op (ev_atL rfl h7 (getMap u8c hx11) one5 rfl) rfl rfl rfl ?_
    refine st_op (ev_assign rfl) rfl rfl rfl ?_
    try show aw _ _ _ _ _ _
    refine aw_seq ?_
    refine aw_reg ?_
    refine st_op (ev_move rfl) rfl rfl rfl ?_
    refine st_op (ev_move rfl) rfl rfl rfl ?_
    refine st_op (ev_convI Try.underlying5 Try.underlying83 rfl (wrU32 (by omega) (by omega))) rfl rfl rfl ?_
    have hw12 : 0 ≤ (Go.bits .xor .u32 x x10) ∧ (Go.bits .xor .u32 x x10) ≤ 4294967295 := bitsU32 _ _ _
    refine st_op (ev_bits rfl rfl rfl) rfl rfl rfl ?_
    refine st_op (ev_assign rfl) rfl rfl rfl ?_
    try show aw _ _ _ _ _ _
    refine aw_seq ?_
    refine aw_reg ?_
    refine st_op (ev_move rfl) rfl rfl rfl ?_
    try show aw _ _ _ _ _ _
    refine aw_block ?_
    refine aw_keep [5, 10, 11, 12, 20] (l' := (.cons 5 (.int .u32 (Go.bits .xor .u32 x x10)) (.cons 10 (.slice bA b.length bc) (.cons 11 (.int .i64 (b.length : Int)) (.cons 12 (.int .i64 (i : Int)) (.cons 20 (.int .i64 0) .nil)))))) (by repeat (first | exact Up.done | refine Up.then ?_ | refine Up.inBlock ?_)) rfl ?_
    refine aw_iter (α := Nat × Int × Heap) (fun a => 8 - a.1) (fun a => (.cons 5 (.int .u32 a.2.1) (.cons 10 (.slice bA b.length bc) (.cons 11 (.int .i64 (b.length : Int)) (.cons 12 (.int .i64 (i : Int)) (.cons 20 (.int .i64 (a.1 : Int)) .nil)))))) (fun a => a.2.2) (fun a => (a.1 ≤ 8) ∧ (Spec.crcSteps 8 (Go.bits .xor .u32 x x10).toNat = Spec.crcSteps (8 - a.1) a.2.1.toNat) ∧ (0 ≤ a.2.1 ∧ a.2.1 ≤ 4294967295) ∧ (Ext Hl2 a.2.2)) (0, (Go.bits .xor .u32 x x10), Hl2) ⟨(show 0 ≤ 8 from (by decide)), (show Spec.crcSteps 8 (Go.bits .xor .u32 x x10).toNat = Spec.crcSteps (8 - 0) (Go.bits .xor .u32 x x10).toNat from rfl), (show 0 ≤ (Go.bits .xor .u32 x x10) ∧ (Go.bits .xor .u32 x x10) ≤ 4294967295 from ⟨by omega, by omega⟩), (show Ext Hl2 Hl2 from (Ext.refl Hl2))⟩ ?_
    rintro ⟨j, y, Hl13⟩ ⟨hj, hy, hn14, hxl15⟩ ih16
    replace hj : j ≤ 8 := hj
    replace hy : Spec.crcSteps 8 (Go.bits .xor .u32 x x10).toNat = Spec.crcSteps (8 - j) y.toNat := hy
    replace hn14 : 0 ≤ y ∧ y ≤ 4294967295 := hn14
    replace hxl15 : Ext Hl2 Hl13 := hxl15
    show aw _ _ _ (RL _ (.cons 5 (.int .u32 y) (.cons 10 (.slice bA b.length bc) (.cons 11 (.int .i64 (b.length : Int)) (.cons 12 (.int .i64 (i : Int)) (.cons 20 (.int .i64 (j : Int)) .nil)))))) Hl13 _
    have Hl13n : Hl2.next ≤ Hl13.next := hxl15.1
    have hn : 0 ≤ y ∧ y ≤ 4294967295 := by omega
    refine aw_seq ?_
    refine aw_reg ?_
    refine st_op (ev_int rfl rfl rfl) rfl rfl rfl ?_
    try show aw _ _ _ _ _ _
    refine aw_seq ?_
    by_cases hc17 : (decide ((j : Int) < 8)) = true
    · refine aw_condT hc17 rfl ?_
      try show aw _ _ _ _ _ _
      have hc17 := of_decide_eq_true hc17
      refine aw_skip ?_
      try show aw _ _ _ _ _ _
      refine aw_seq ?_
      refine aw_block ?_
      refine aw_reg ?_
      refine st_op (ev_move rfl) rfl rfl rfl ?_
      refine st_op (ev_shr (a := y) (c := 2) rfl rfl (by decide) (by decide)) rfl rfl rfl ?_
      refine st_op (ev_move rfl) rfl rfl rfl ?_
      have hw18 : 0 ≤ (Go.bits .and .u32 y 1) ∧ (Go.bits .and .u32 y 1) ≤ 4294967295 := bitsU32 _ _ _
      refine st_op (ev_bits rfl rfl rfl) rfl rfl rfl ?_
      have hw19 : 0 ≤ (IntKind.u32.wrap (0 - (Go.bits .and .u32 y 1))) ∧ (IntKind.u32.wrap (0 - (Go.bits .and .u32 y 1))) ≤ 4294967295 := wrapU32 _
      refine st_op (ev_neg rfl) rfl rfl rfl ?_
      have hw20 : 0 ≤ (Go.bits .and .u32 3988292384 (IntKind.u32.wrap (0 - (Go.bits .and .u32 y 1)))) ∧ (Go.bits .and .u32 3988292384 (IntKind.u32.wrap (0 - (Go.bits .and .u32 y 1)))) ≤ 4294967295 := bitsU32 _ _ _
      refine st_op (ev_bits rfl rfl rfl) rfl rfl rfl ?_
      have hw21 : 0 ≤ (Go.bits .xor .u32 (y / 2) (Go.bits .and .u32 3988292384 (IntKind.u32.wrap (0 - (Go.bits .and .u32 y 1))))) ∧ (Go.bits .xor .u32 (y / 2) (Go.bits .and .u32 3988292384 (IntKind.u32.wrap (0 - (Go.bits .and .u32 y 1))))) ≤ 4294967295 := bitsU32 _ _ _
      refine st_op (ev_bits rfl rfl rfl) rfl rfl rfl ?_
      refine st_op (ev_assign rfl) rfl rfl rfl ?_
      try show aw _ _ _ _ _ _
      refine aw_reg ?_
      refine st_op (ev_int64 (c := (j : Int) + 1) rfl rfl rfl (by omega) (by omega)) rfl rfl rfl ?_
      refine st_op (ev_move rfl) rfl rfl rfl ?_
      try show aw _ _ _ _ _ _
      refine aw_keep [5, 10, 11, 12, 20] (l' := (.cons 5 (.int .u32 (Go.bits .xor .u32 (y / 2) (Go.bits .and .u32 3988292384 (IntKind.u32.wrap (0 - (Go.bits .and .u32 y 1)))))) (.cons 10 (.slice bA b.length bc) (.cons 11 (.int .i64 (b.length : Int)) (.cons 12 (.int .i64 (i : Int)) (.cons 20 (.int .i64 ((j : Int) + 1)) .nil)))))) (by repeat (first | exact Up.done | refine Up.then ?_ | refine Up.inBlock ?_)) rfl ?_
      exact ih16 (j + 1, (Go.bits .xor .u32 (y / 2) (Go.bits .and .u32 3988292384 (IntKind.u32.wrap (0 - (Go.bits .and .u32 y 1))))), Hl13) ⟨(show (j + 1) ≤ 8 from (by omega)), (show Spec.crcSteps 8 (Go.bits .xor .u32 x x10).toNat = Spec.crcSteps (8 - (j + 1)) (Go.bits .xor .u32 (y / 2) (Go.bits .and .u32 3988292384 (IntKind.u32.wrap (0 - (Go.bits .and .u32 y 1))))).toNat from (by rw [hy, show 8 - j = (8 - (j + 1)) + 1 by omega]; show Spec.crcSteps (8 - (j + 1)) (Spec.crcStep y.toNat) = _; congr 1; rw [Spec.crc_one hn]; rfl)), (show 0 ≤ (Go.bits .xor .u32 (y / 2) (Go.bits .and .u32 3988292384 (IntKind.u32.wrap (0 - (Go.bits .and .u32 y 1))))) ∧ (Go.bits .xor .u32 (y / 2) (Go.bits .and .u32 3988292384 (IntKind.u32.wrap (0 - (Go.bits .and .u32 y 1))))) ≤ 4294967295 from ⟨by omega, by omega⟩), (show Ext Hl2 Hl13 from hxl15)⟩ (by simp only; omega)
    · rw [Bool.not_eq_true] at hc17; refine aw_condF hc17 rfl ?_
      try show aw _ _ _ _ _ _
      have hc17 := of_decide_eq_false hc17
      refine aw_exit ?_
      try show aw _ _ _ _ _ _
      refine aw_reg ?_
      refine st_op (ev_int64 (c := (i : Int) + 1) rfl rfl rfl (by omega) (by omega)) rfl rfl rfl ?_
      refine st_op (ev_move rfl) rfl rfl rfl ?_
      try show aw _ _ _ _ _ _
      have hx22 : Ext H Hl13 := (Ext.trans hxl4 hxl15)
      refine aw_keep [5, 10, 11, 12] (l' := (.cons 5 (.int .u32 y) (.cons 10 (.slice bA b.length bc) (.cons 11 (.int .i64 (b.length : Int)) (.cons 12 (.int .i64 ((i : Int) + 1)) .nil))))) (by repeat (first | exact Up.done | refine Up.then ?_ | refine Up.inBlock ?_)) rfl ?_
      exact ih5 (i + 1, y, Hl13) ⟨(show (i + 1) ≤ b.length from (by omega)), (show Spec.crcRun (4294967295 - s.toNat) b = Spec.crcRun y.toNat (b.drop (i + 1)) from (by rw [hx, drop_at hx11, Spec.crc_more (by omega) x10b, hy, show 8 - j = 0 by omega]; rfl)), (show 0 ≤ y ∧ y ≤ 4294967295 from ⟨by omega, by omega⟩), (show Ext H Hl13 from hx22)⟩ (by simp only; omega)
  · rw [Bool.not_eq_true] at hc6; refine aw_condF hc6 rfl ?_
    try show aw _ _ _ _ _ _
    have hc6 := of_decide_eq_false hc6
    refine aw_exit ?_
    try show aw _ _ _ _ _ _
    refine aw_seq ?_
    refine aw_reg ?_
    refine st_op (ev_move rfl) rfl rfl rfl ?_
    have hw23 : 0 ≤ (Go.bits .xor .u32 (IntKind.max .u32) x) ∧ (Go.bits .xor .u32 (IntKind.max .u32) x) ≤ 4294967295 := bitsU32 _ _ _
    refine st_op (ev_comU rfl rfl) rfl rfl rfl ?_
    refine st_op (ev_assign rfl) rfl rfl rfl ?_
    try show aw _ _ _ _ _ _
    refine aw_ret ?_
    have hres : ((Spec.crcMore s.toNat b : Nat) : Int) = (Go.bits .xor .u32 (IntKind.max .u32) x) := by exact Spec.crc_fin hs (by omega) (by rw [hx, List.drop_eq_nil_of_le (by omega)]; rfl)
    exact ⟨.int .u32 (Go.bits .xor .u32 (IntKind.max .u32) x), rfl, by first | (rw [hres]; done) | rw [← hres], (by exact ⟨by omega, by have := Spec.crcMore_lt s.toNat b; omega⟩), hxl4⟩
theorem crc_Sum_spec (H : Heap) (bA : Option Addr) (b : List Int) (bc : Nat) (hb : Row H bA bc 1 (b.map u8c)) (cb : b.length ≤ bc) (lb : b.length ≤ 1099511627776) (bb : Spec.Bytes b) : ∃ v H', Spec Try.prog 47 [.slice bA b.length bc] H v H' ∧ ((v = .int .u32 ((Spec.crcMore 0 b : Nat) : Int)) ∧ (0 ≤ ((Spec.crcMore 0 b : Nat) : Int) ∧ ((Spec.crcMore 0 b : Nat) : Int) ≤ 4294967295) ∧ (Ext H H')) := by
  refine spec_go1 E0_ok 5 (f := 47) Try.func47 rfl rfl rfl ?_
  refine aw_seq ?_
  refine aw_reg ?_
  refine st_op (ev_assign rfl) rfl rfl rfl ?_
  try show aw _ _ _ _ _ _
  refine aw_seq ?_
  refine aw_reg ?_
  refine st_op (ev_move rfl) rfl rfl rfl ?_
  refine st_call rfl rfl rfl ent46 rfl rfl rfl ?_
  obtain ⟨_, H2, hs1, hs1v, hq4, hx3⟩ := crc_More_spec H 0 (by decide) bA b bc hb cb (by first | omega | (simp only [List.length_append, List.length_cons, List.length_nil, List.length_map, List.length_set, List.length_replicate, Spec.bytesOf_length]; omega) | (simp; omega)) (by first | assumption | exact Spec.Bytes.nil | exact Spec.bytes_of _ | (repeat' first | assumption | exact Spec.Bytes.nil | exact Spec.bytes_of _ | exact Spec.enc_bytes _ | exact Spec.four_bytes _ | exact Spec.sealF_bytes (by assumption) | apply Spec.Bytes.append | apply Spec.Bytes.cons (by omega) | apply Spec.Bytes.take | apply Spec.Bytes.drop))
  rw [hs1v] at hs1; clear hs1v
  refine ⟨_, H2, hs1, ?_⟩
  have H2n : H.next ≤ H2.next := hx3.1
  refine st_op (ev_assign rfl) rfl rfl rfl ?_
  try show aw _ _ _ _ _ _
  refine aw_ret ?_
  have hres : ((Spec.crcMore 0 b : Nat) : Int) = ((Spec.crcMore (0 : Int).toNat b : Nat) : Int) := by rfl
  exact ⟨.int .u32 ((Spec.crcMore (0 : Int).toNat b : Nat) : Int), rfl, by first | (rw [hres]; done) | rw [← hres], (by exact ⟨by omega, by have := Spec.crcMore_lt 0 b; omega⟩), hx3⟩
theorem num_Four_spec (H : Heap) (s : Int) (hs : 0 ≤ s ∧ s ≤ 4294967295) : ∃ v H', Spec Try.prog 48 [.int .u32 s] H v H' ∧ (∃ rA0 rc0, (v = .slice rA0 ((Spec.four s.toNat).length) rc0) ∧ (My H H' rA0 rc0 1 ((Spec.four s.toNat).map u8c)) ∧ (((Spec.four s.toNat)).length = 4) ∧ (Ext H H')) := by
  refine spec_go1 E0_ok 15 (f := 48) Try.func48 rfl rfl rfl ?_
  refine aw_seq ?_
  refine aw_reg ?_
  refine st_op (ev_assign rfl) rfl rfl rfl ?_
  try show aw _ _ _ _ _ _
  refine aw_seq ?_
  refine aw_reg ?_
  refine st_op (ev_move rfl) rfl rfl rfl ?_
  refine st_op (ev_shr (a := s) (c := 16777216) rfl rfl (by decide) (by decide)) rfl rfl rfl ?_
  refine st_op (ev_convI Try.underlying83 Try.underlying5 rfl (wrU8 (by omega) (by omega))) rfl rfl rfl ?_
  refine st_op (ev_move rfl) rfl rfl rfl ?_
  refine st_op (ev_shr (a := s) (c := 65536) rfl rfl (by decide) (by decide)) rfl rfl rfl ?_
  have hw1 : 0 ≤ (IntKind.u8.wrap (s / 65536)) ∧ (IntKind.u8.wrap (s / 65536)) ≤ 255 := wrapU8 _
  refine st_op (ev_convInt Try.underlying83 Try.underlying5 rfl) rfl rfl rfl ?_
  refine st_op (ev_move rfl) rfl rfl rfl ?_
  refine st_op (ev_shr (a := s) (c := 256) rfl rfl (by decide) (by decide)) rfl rfl rfl ?_
  have hw2 : 0 ≤ (IntKind.u8.wrap (s / 256)) ∧ (IntKind.u8.wrap (s / 256)) ≤ 255 := wrapU8 _
  refine st_op (ev_convInt Try.underlying83 Try.underlying5 rfl) rfl rfl rfl ?_
  refine st_op (ev_move rfl) rfl rfl rfl ?_
  have hw3 : 0 ≤ (IntKind.u8.wrap s) ∧ (IntKind.u8.wrap s) ≤ 255 := wrapU8 _
  refine st_op (ev_convInt Try.underlying83 Try.underlying5 rfl) rfl rfl rfl ?_
  obtain ⟨b4, H5, he6, b4e, H5n_, hm8, f7⟩ := mem_lit H (xs := ([.int .u8 (s / 16777216), .int .u8 (IntKind.u8.wrap (s / 65536)), .int .u8 (IntKind.u8.wrap (s / 256)), .int .u8 (IntKind.u8.wrap s)] : List Value)) (m := 4) (rows := [[.int .u8 (s / 16777216)], [.int .u8 (IntKind.u8.wrap (s / 65536))], [.int .u8 (IntKind.u8.wrap (s / 256))], [.int .u8 (IntKind.u8.wrap s)]]) rfl eok29 (by decide) (by decide) zf5 rfl (allLen rfl) rfl
  replace hm8 : My H H5 (some ⟨b4, 0, none⟩) 4 1 ([(s / 16777216), (IntKind.u8.wrap (s / 65536)), (IntKind.u8.wrap (s / 256)), (IntKind.u8.wrap s)].map u8c) := hm8
  refine st_op (he6 _ _ _ _ _ _ _ _ rfl) rfl rfl rfl ?_
  have hx9 : Ext H H5 := Ext.new (by omega) H5n_ f7
  have H5n : H.next ≤ H5.next := hx9.1
  refine st_op (ev_assign rfl) rfl rfl rfl ?_
  try show aw _ _ _ _ _ _
  refine aw_ret ?_
  have hres : (Spec.four s.toNat) = [(s / 16777216), (IntKind.u8.wrap (s / 65536)), (IntKind.u8.wrap (s / 256)), (IntKind.u8.wrap s)] := by rw [← Spec.four_is, show ((s.toNat : Nat) : Int) = s from Int.toNat_of_nonneg hs.1, IntKind.wrap_u8, IntKind.wrap_u8, IntKind.wrap_u8, show s / 16777216 % 256 = s / 16777216 by omega]
  exact ⟨.slice (some ⟨b4, 0, none⟩) 4 4, rfl, (some ⟨b4, 0, none⟩), 4, by first | (rw [hres]; first | done | rfl | simp; done) | rfl, (by rw [hres]; exact hm8), (by rfl), hx9⟩
theorem frame_Seal_spec (H : Heap) (kind : Int) (hkind : -9223372036854775808 ≤ kind ∧ kind ≤ 9223372036854775807) (bA : Option Addr) (b : List Int) (bc : Nat) (hb : Row H bA bc 1 (b.map u8c)) (cb : b.length ≤ bc) (lb : b.length ≤ 1099511627776) (bb : Spec.Bytes b) : ∃ v H', Spec Try.prog 25 [.int .i64 kind, .slice bA b.length bc] H v H' ∧ (∃ rA0 rc0, (v = .slice rA0 ((Spec.sealF kind b).length) rc0) ∧ (My H H' rA0 rc0 1 ((Spec.sealF kind b).map u8c)) ∧ (((Spec.sealF kind b)).length ≤ 4007) ∧ (Spec.Bytes (Spec.sealF kind b)) ∧ (Ext H H')) := by
  refine spec_go2 E0_ok 34 (f := 25) Try.func25 rfl rfl rfl ?_
  refine aw_seq ?_
  refine aw_reg ?_
  refine st_op (ev_assign rfl) rfl rfl rfl ?_
  try show aw _ _ _ _ _ _
  refine aw_seq ?_
  refine aw_seq ?_
  refine aw_reg ?_
  refine st_op (ev_move rfl) rfl rfl rfl ?_
  refine st_op (ev_int rfl rfl rfl) rfl rfl rfl ?_
  refine st_op (ev_move rfl) rfl rfl rfl ?_
  refine st_bool 9 rfl (fun hb1 => ?_) (fun hb1 => ?_)
  ·
    have hb1 := of_decide_eq_true hb1
    refine st_skip rfl rfl rfl ?_
    refine st_skip rfl rfl rfl ?_
    refine st_op (ev_pickT rfl rfl) rfl rfl rfl ?_
    refine st_op (ev_move rfl) rfl rfl rfl ?_
    refine st_skip rfl rfl rfl ?_
    refine st_skip rfl rfl rfl ?_
    refine st_skip rfl rfl rfl ?_
    refine st_op (ev_pickT rfl rfl) rfl rfl rfl ?_
    try show aw _ _ _ _ _ _
    refine aw_cond (t := true) rfl ?_
    try show aw _ _ _ _ _ _
    refine aw_seq ?_
    refine aw_reg ?_
    refine st_op (ev_assign rfl) rfl rfl rfl ?_
    try show aw _ _ _ _ _ _
    refine aw_ret ?_
    have hm2 : My H H none 0 1 (([] : List Int).map u8c) := .nil
    have hres : (Spec.sealF kind b) = ([] : List Int) := by unfold Spec.sealF; rw [if_pos (by omega)]
    exact ⟨.slice none 0 0, rfl, none, 0, by first | (rw [hres]; first | done | rfl | simp; done) | rfl, (by rw [hres]; exact hm2), (by exact Spec.sealF_len), (by exact Spec.sealF_bytes bb), (Ext.refl H)⟩
  ·
    have hb1 := of_decide_eq_false hb1
    refine st_op (ev_move rfl) rfl rfl rfl ?_
    refine st_op (ev_int rfl rfl rfl) rfl rfl rfl ?_
    refine st_op (ev_pickF rfl rfl) rfl rfl rfl ?_
    refine st_op (ev_move rfl) rfl rfl rfl ?_
    refine st_bool 13 rfl (fun hb3 => ?_) (fun hb3 => ?_)
    ·
      have hb3 := of_decide_eq_true hb3
      refine st_skip rfl rfl rfl ?_
      refine st_skip rfl rfl rfl ?_
      refine st_skip rfl rfl rfl ?_
      refine st_op (ev_pickT rfl rfl) rfl rfl rfl ?_
      try show aw _ _ _ _ _ _
      refine aw_cond (t := true) rfl ?_
      try show aw _ _ _ _ _ _
      refine aw_seq ?_
      refine aw_reg ?_
      refine st_op (ev_assign rfl) rfl rfl rfl ?_
      try show aw _ _ _ _ _ _
      refine aw_ret ?_
      have hm4 : My H H none 0 1 (([] : List Int).map u8c) := .nil
      have hres : (Spec.sealF kind b) = ([] : List Int) := by unfold Spec.sealF; rw [if_pos (by omega)]
      exact ⟨.slice none 0 0, rfl, none, 0, by first | (rw [hres]; first | done | rfl | simp; done) | rfl, (by rw [hres]; exact hm4), (by exact Spec.sealF_len), (by exact Spec.sealF_bytes bb), (Ext.refl H)⟩
    ·
      have hb3 := of_decide_eq_false hb3
      refine st_op (ev_move rfl) rfl rfl rfl ?_
      refine st_op (ev_lenSl rfl Try.underlying29) rfl rfl rfl ?_
      refine st_op (ev_int rfl rfl rfl) rfl rfl rfl ?_
      refine st_op (ev_pickF rfl rfl) rfl rfl rfl ?_
      try show aw _ _ _ _ _ _
      by_cases hc5 : (decide ((b.length : Int) > 4000)) = true
      · refine aw_condT hc5 rfl ?_
        try show aw _ _ _ _ _ _
        have hc5 := of_decide_eq_true hc5
        refine aw_seq ?_
        refine aw_reg ?_
        refine st_op (ev_assign rfl) rfl rfl rfl ?_
        try show aw _ _ _ _ _ _
        refine aw_ret ?_
        have hm6 : My H H none 0 1 (([] : List Int).map u8c) := .nil
        have hres : (Spec.sealF kind b) = ([] : List Int) := by unfold Spec.sealF; rw [if_pos (by omega)]
        exact ⟨.slice none 0 0, rfl, none, 0, by first | (rw [hres]; first | done | rfl | simp; done) | rfl, (by rw [hres]; exact hm6), (by exact Spec.sealF_len), (by exact Spec.sealF_bytes bb), (Ext.refl H)⟩
      · rw [Bool.not_eq_true] at hc5; refine aw_condF hc5 rfl ?_
        try show aw _ _ _ _ _ _
        have hc5 := of_decide_eq_false hc5
        refine aw_skip ?_
        try show aw _ _ _ _ _ _
        refine aw_seq ?_
        refine aw_reg ?_
        refine st_op (ev_move rfl) rfl rfl rfl ?_
        refine st_op (ev_convI Try.underlying3 Try.underlying5 rfl (wrU8 (by omega) (by omega))) rfl rfl rfl ?_
        obtain ⟨b7, H8, he9, b7e, H8n_, hm11, f10⟩ := mem_lit H (xs := ([.int .u8 kind] : List Value)) (m := 1) (rows := [[.int .u8 kind]]) rfl eok29 (by decide) (by decide) zf5 rfl (allLen rfl) rfl
        replace hm11 : My H H8 (some ⟨b7, 0, none⟩) 1 1 ([kind].map u8c) := hm11
        refine st_op (he9 _ _ _ _ _ _ _ _ rfl) rfl rfl rfl ?_
        have hx12 : Ext H H8 := Ext.new (by omega) H8n_ f10
        have H8n : H.next ≤ H8.next := hx12.1
        refine st_op (ev_move rfl) rfl rfl rfl ?_
        refine st_op (ev_lenSl rfl Try.underlying29) rfl rfl rfl ?_
        refine st_call rfl rfl rfl ent26 rfl rfl rfl ?_
        obtain ⟨_, H14, hs13, A16, c17, hs13v, hm18, hq19, hx15⟩ := num_Put_spec H8 H (some ⟨b7, 0, none⟩) ([kind]) 1 hm11 (by omega) (by first | omega | (simp only [List.length_append, List.length_cons, List.length_nil, List.length_map, List.length_set, List.length_replicate, Spec.bytesOf_length]; omega) | (simp; omega)) (b.length : Int) ⟨by omega, by omega⟩
        rw [hs13v] at hs13; clear hs13v
        refine ⟨_, H14, hs13, ?_⟩
        have H14n : H8.next ≤ H14.next := hx15.1
        refine st_op (ev_assign rfl) rfl rfl rfl ?_
        try show aw _ _ _ _ _ _
        refine aw_seq ?_
        refine aw_reg ?_
        refine st_op (ev_move rfl) rfl rfl rfl ?_
        refine st_call rfl rfl rfl ent47 rfl rfl rfl ?_
        obtain ⟨_, H21, hs20, hs20v, hq23, hx22⟩ := crc_Sum_spec H14 A16 (([kind]) ++ Spec.enc (Spec.zig (b.length : Int))) c17 (My.row hm18) (My.capF hm18 (by first | omega | (simp only [List.length_append, List.length_cons, List.length_nil, List.length_map, List.length_set, List.length_replicate, Spec.bytesOf_length]; omega) | (simp; omega))) (by first | omega | (simp only [List.length_append, List.length_cons, List.length_nil, List.length_map, List.length_set, List.length_replicate, Spec.bytesOf_length]; omega) | (simp; omega)) (by first | assumption | exact Spec.Bytes.nil | exact Spec.bytes_of _ | (repeat' first | assumption | exact Spec.Bytes.nil | exact Spec.bytes_of _ | exact Spec.enc_bytes _ | exact Spec.four_bytes _ | exact Spec.sealF_bytes (by assumption) | apply Spec.Bytes.append | apply Spec.Bytes.cons (by omega) | apply Spec.Bytes.take | apply Spec.Bytes.drop))
        rw [hs20v] at hs20; clear hs20v
        refine ⟨_, H21, hs20, ?_⟩
        have H21n : H14.next ≤ H21.next := hx22.1
        refine st_op (ev_move rfl) rfl rfl rfl ?_
        refine st_call rfl rfl rfl ent46 rfl rfl rfl ?_
        have hx25 : Ext H H21 := (Ext.trans (Ext.then hx12 hx15 (fun q hq e => by omega)) hx22)
        have h24 := Row.ext hb hx25
        obtain ⟨_, H27, hs26, hs26v, hq29, hx28⟩ := crc_More_spec H21 ((Spec.crcMore 0 (([kind]) ++ Spec.enc (Spec.zig (b.length : Int))) : Nat) : Int) ⟨by omega, by omega⟩ bA b bc h24 cb (by first | omega | (simp only [List.length_append, List.length_cons, List.length_nil, List.length_map, List.length_set, List.length_replicate, Spec.bytesOf_length]; omega) | (simp; omega)) (by first | assumption | exact Spec.Bytes.nil | exact Spec.bytes_of _ | (repeat' first | assumption | exact Spec.Bytes.nil | exact Spec.bytes_of _ | exact Spec.enc_bytes _ | exact Spec.four_bytes _ | exact Spec.sealF_bytes (by assumption) | apply Spec.Bytes.append | apply Spec.Bytes.cons (by omega) | apply Spec.Bytes.take | apply Spec.Bytes.drop))
        rw [hs26v] at hs26; clear hs26v
        refine ⟨_, H27, hs26, ?_⟩
        have H27n : H21.next ≤ H27.next := hx28.1
        refine st_op (ev_assign rfl) rfl rfl rfl ?_
        try show aw _ _ _ _ _ _
        refine aw_seq ?_
        refine aw_reg ?_
        refine st_op (ev_move rfl) rfl rfl rfl ?_
        refine st_op (ev_move rfl) rfl rfl rfl ?_
        refine st_call rfl rfl rfl ent48 rfl rfl rfl ?_
        obtain ⟨_, H31, hs30, A33, c34, hs30v, hm35, hq36, hx32⟩ := num_Four_spec H27 ((Spec.crcMore ((Spec.crcMore 0 (([kind]) ++ Spec.enc (Spec.zig (b.length : Int))) : Nat) : Int).toNat b : Nat) : Int) ⟨by omega, by omega⟩
        rw [hs30v] at hs30; clear hs30v
        refine ⟨_, H31, hs30, ?_⟩
        have H31n : H27.next ≤ H31.next := hx32.1
        have hx38 : Ext H14 H31 := (Ext.trans (Ext.trans hx22 hx28) hx32)
        have h37 := My.ext hm18 hx38
        obtain ⟨A39, c40, H41, W42, he43, hm44, hf45⟩ := mem_append (f := u8c) (old := (([kind]) ++ Spec.enc (Spec.zig (b.length : Int)))) (new := (Spec.four ((Spec.crcMore ((Spec.crcMore 0 (([kind]) ++ Spec.enc (Spec.zig (b.length : Int))) : Nat) : Int).toNat b : Nat) : Int).toNat)) (m := (([kind]) ++ Spec.enc (Spec.zig (b.length : Int))).length) (mx := (Spec.four ((Spec.crcMore ((Spec.crcMore 0 (([kind]) ++ Spec.enc (Spec.zig (b.length : Int))) : Nat) : Int).toNat b : Nat) : Int).toNat).length) (c := c17) (by first | rfl | simp) (by first | rfl | simp) eok29 (by decide) hm18 h37 (by omega) (((My.row hm35)).srcF (by decide) (by first | rfl | simp)) rfl u8c_len u8c_one (by first | omega | (simp only [List.length_append, List.length_cons, List.length_nil, List.length_map, List.length_set, List.length_replicate, Spec.bytesOf_length]; omega) | (simp; omega)) (by first | omega | (simp only [List.length_append, List.length_cons, List.length_nil, List.length_map, List.length_set, List.length_replicate, Spec.bytesOf_length]; omega) | (simp; omega))
        refine st_op (he43 _ _ _ _ _ _ _ _ _ _ rfl rfl isrow29) rfl rfl rfl ?_
        have H41n : H31.next ≤ H41.next := hf45.1
        refine st_op (ev_move rfl) rfl rfl rfl ?_
        have hx47 : Ext H H41 := (Ext.then (Ext.trans (Ext.trans hx25 hx28) hx32) hf45 (fun q hq e => by omega))
        have h46 := Row.ext hb hx47
        obtain ⟨A48, c49, H50, W51, he52, hm53, hf54⟩ := mem_append (f := u8c) (old := ((([kind]) ++ Spec.enc (Spec.zig (b.length : Int))) ++ (Spec.four ((Spec.crcMore ((Spec.crcMore 0 (([kind]) ++ Spec.enc (Spec.zig (b.length : Int))) : Nat) : Int).toNat b : Nat) : Int).toNat))) (new := b) (m := ((([kind]) ++ Spec.enc (Spec.zig (b.length : Int))) ++ (Spec.four ((Spec.crcMore ((Spec.crcMore 0 (([kind]) ++ Spec.enc (Spec.zig (b.length : Int))) : Nat) : Int).toNat b : Nat) : Int).toNat)).length) (mx := b.length) (c := c40) (by first | rfl | simp) (by first | rfl | simp) eok29 (by decide) hm44 hm44 (by omega) ((h46).srcF (by decide) (by first | rfl | simp)) rfl u8c_len u8c_one (by first | omega | (simp only [List.length_append, List.length_cons, List.length_nil, List.length_map, List.length_set, List.length_replicate, Spec.bytesOf_length]; omega) | (simp; omega)) (by first | omega | (simp only [List.length_append, List.length_cons, List.length_nil, List.length_map, List.length_set, List.length_replicate, Spec.bytesOf_length]; omega) | (simp; omega))
        refine st_op (he52 _ _ _ _ _ _ _ _ _ _ rfl rfl isrow29) rfl rfl rfl ?_
        have H50n : H41.next ≤ H50.next := hf54.1
        refine st_op (ev_assign rfl) rfl rfl rfl ?_
        try show aw _ _ _ _ _ _
        refine aw_ret ?_
        have hx55 : Ext H H50 := (Ext.then hx47 hf54 (fun q hq e => by omega))
        have hres : (Spec.sealF kind b) = (((([kind]) ++ Spec.enc (Spec.zig (b.length : Int))) ++ (Spec.four ((Spec.crcMore ((Spec.crcMore 0 (([kind]) ++ Spec.enc (Spec.zig (b.length : Int))) : Nat) : Int).toNat b : Nat) : Int).toNat)) ++ b) := by unfold Spec.sealF; rw [if_neg (by omega)]; exact (Spec.seal_is (by omega)).symm
        exact ⟨.slice A48 ((((([kind]) ++ Spec.enc (Spec.zig (b.length : Int))) ++ (Spec.four ((Spec.crcMore ((Spec.crcMore 0 (([kind]) ++ Spec.enc (Spec.zig (b.length : Int))) : Nat) : Int).toNat b : Nat) : Int).toNat)) ++ b).length) c49, rfl, A48, c49, by first | (rw [hres]; first | done | rfl | simp; done) | rfl, (by rw [hres]; exact hm53), (by exact Spec.sealF_len), (by exact Spec.sealF_bytes bb), hx55⟩
theorem wal_PutSnap_spec (H : Heap) (s_index : Int) (s_term : Int) (s_conf : ByteArray) (s_data : ByteArray) : ∃ v H', Spec Try.prog 44 [.agg #[.int .i64 s_index, .int .i64 s_term, .string s_conf, .string s_data]] H v H' ∧ (∃ rA0 rc0, (v = .slice rA0 ((Spec.snapF s_index s_term s_conf s_data).length) rc0) ∧ (My H H' rA0 rc0 1 ((Spec.snapF s_index s_term s_conf s_data).map u8c)) ∧ (Spec.Bytes (Spec.snapF s_index s_term s_conf s_data)) ∧ (((Spec.snapF s_index s_term s_conf s_data)).length ≤ 1700000) ∧ (rA0 = none ↔ Spec.mayS s_index s_term s_conf s_data = false) ∧ (Ext H H')) := by
  refine spec_go1 E0_ok 43 (f := 44) Try.func44 rfl rfl rfl ?_
  refine aw_seq ?_
  refine aw_reg ?_
  obtain ⟨b1, H2, he3, b1e, H2n_, hB5, f4⟩ := mem_box (P := Try.prog) H (v := .agg #[.int .i64 s_index, .int .i64 s_term, .string s_conf, .string s_data]) (cs := [.int .i64 s_index, .int .i64 s_term, .string s_conf, .string s_data]) rfl rfl
  refine st_op (he3 _ _ _ _ _ _ _ _ _ rfl) rfl rfl rfl ?_
  have hx6 : Ext H H2 := Ext.new (by omega) H2n_ f4
  have H2n : H.next ≤ H2.next := hx6.1
  refine st_op (ev_assign rfl) rfl rfl rfl ?_
  try show aw _ _ _ _ _ _
  refine aw_seq ?_
  refine aw_seq ?_
  refine aw_reg ?_
  refine st_op (ev_load rfl (lvar_part (l := [.int .i64 s_index, .int .i64 s_term, .string s_conf, .string s_data]) many24 hB5 rfl rfl (by decide))) rfl rfl rfl ?_
  refine st_call rfl rfl rfl ent60 rfl rfl rfl ?_
  obtain ⟨_, H8, hs7, hs7v, hx9⟩ := wal_may_spec H2 s_index s_term s_conf s_data
  rw [hs7v] at hs7; clear hs7v
  refine ⟨_, H8, hs7, ?_⟩
  have H8n : H2.next ≤ H8.next := hx9.1
  refine st_op (ev_not rfl) rfl rfl rfl ?_
  try show aw _ _ _ _ _ _
  by_cases hc10 : (!(Spec.mayS s_index s_term s_conf s_data)) = true
  · refine aw_condT hc10 rfl ?_
    try show aw _ _ _ _ _ _
    replace hc10 : (Spec.mayS s_index s_term s_conf s_data) = false := by rw [Bool.not_eq_true'] at hc10; exact hc10
    refine aw_seq ?_
    refine aw_reg ?_
    refine st_op (ev_assign rfl) rfl rfl rfl ?_
    try show aw _ _ _ _ _ _
    refine aw_ret ?_
    have hm11 : My H8 H8 none 0 1 (([] : List Int).map u8c) := .nil
    have hx12 : Ext H H8 := (Ext.trans hx6 hx9)
    have hres : (Spec.snapF s_index s_term s_conf s_data) = ([] : List Int) := by unfold Spec.snapF; rw [if_neg (by simp_all)]
    exact ⟨.slice none 0 0, rfl, none, 0, by first | (rw [hres]; first | done | rfl | simp; done) | rfl, (by rw [hres]; exact (My.older hm11 (by omega))), (by exact Spec.snapF_bytes _ _ _ _), (by exact Spec.snapF_len _ _ _ _), (by exact ⟨fun _ => by simp_all, fun _ => rfl⟩), hx12⟩
  · rw [Bool.not_eq_true] at hc10; refine aw_condF hc10 rfl ?_
    try show aw _ _ _ _ _ _
    replace hc10 : (Spec.mayS s_index s_term s_conf s_data) = true := by rw [Bool.not_eq_false'] at hc10; exact hc10
    have hc10m := Spec.mayS_says hc10
    refine aw_skip ?_
    try show aw _ _ _ _ _ _
    refine aw_seq ?_
    refine aw_marks (fun b => b < H8.next) [(false, false), (false, false), (false, true), (false, false), (true, false), (false, true), (false, false), (true, false), (false, false), (false, false)] mixed (by kernel_rfl) (by kernel_rfl) ?_
    refine sm_op (ev_fieldAddr rfl fa24_0 (o' := 0) rfl) rfl rfl rfl ?_
    have h13 := Ext.blk hx9 (by omega) hB5
    refine sm_op (ev_load rfl (lvar_one one2 h13 rfl)) rfl rfl rfl ?_
    refine sm_call rfl rfl rfl ent26 rfl rfl rfl ?_
    have hm14 : My H8 H8 none 0 1 (([] : List Int).map u8c) := .nil
    obtain ⟨_, H16, hs15, A18, c19, hs15v, hm20, hq21, hx17⟩ := num_Put_spec H8 H8 none ([] : List Int) 0 hm14 (by omega) (by first | omega | (simp only [List.length_append, List.length_cons, List.length_nil, List.length_map, List.length_set, List.length_replicate, Spec.bytesOf_length]; omega) | (simp; omega)) s_index ⟨by omega, by omega⟩
    rw [hs15v] at hs15; clear hs15v
    refine ⟨_, H16, hs15, (fun _ b hb => hx17.2 b (by omega) (fun e => by omega)), ?_⟩
    have H16n : H8.next ≤ H16.next := hx17.1
    refine sm_op (ev_fieldAddr rfl fa24_1 (o' := 1) rfl) rfl rfl rfl ?_
    have hx23 : Ext H8 H16 := (Ext.then (Ext.refl H8) hx17 (fun q hq e => by omega))
    have h22 := Ext.blk hx23 (by omega) h13
    refine sm_read (ev_load rfl (lvar_one one2 h22 rfl)) rfl rfl rfl (fun b hb => by cases hb; dsimp only; omega) ?_
    refine sm_call rfl rfl rfl ent26 rfl rfl rfl ?_
    obtain ⟨_, H25, hs24, A27, c28, hs24v, hm29, hq30, hx26⟩ := num_Put_spec H16 H8 A18 (([] : List Int) ++ Spec.enc (Spec.zig s_index)) c19 hm20 (by omega) (by first | omega | (simp only [List.length_append, List.length_cons, List.length_nil, List.length_map, List.length_set, List.length_replicate, Spec.bytesOf_length]; omega) | (simp; omega)) s_term ⟨by omega, by omega⟩
    rw [hs24v] at hs24; clear hs24v
    refine ⟨_, H25, hs24, (fun _ b hb => hx26.2 b (by omega) (fun e => by omega)), ?_⟩
    have H25n : H16.next ≤ H25.next := hx26.1
    refine sm_op (ev_fieldAddr rfl fa24_2 (o' := 2) rfl) rfl rfl rfl ?_
    have hx32 : Ext H8 H25 := (Ext.then hx23 hx26 (fun q hq e => by omega))
    have h31 := Ext.blk hx32 (by omega) h13
    refine sm_read (ev_load rfl (lvar_one one9 h31 rfl)) rfl rfl rfl (fun b hb => by cases hb; dsimp only; omega) ?_
    refine sm_call rfl rfl rfl ent61 rfl rfl rfl ?_
    obtain ⟨_, H34, hs33, A36, c37, hs33v, hm38, hq39, hx35⟩ := num_PutText_spec H25 H8 A27 ((([] : List Int) ++ Spec.enc (Spec.zig s_index)) ++ Spec.enc (Spec.zig s_term)) c28 hm29 (by omega) (by first | omega | (simp only [List.length_append, List.length_cons, List.length_nil, List.length_map, List.length_set, List.length_replicate, Spec.bytesOf_length]; omega) | (simp; omega)) s_conf (by omega)
    rw [hs33v] at hs33; clear hs33v
    refine ⟨_, H34, hs33, (fun _ b hb => hx35.2 b (by omega) (fun e => by omega)), ?_⟩
    have H34n : H25.next ≤ H34.next := hx35.1
    refine sm_op (ev_assign rfl) rfl rfl rfl ?_
    try show aw _ _ _ _ _ _
    refine aw_seq ?_
    refine aw_reg ?_
    refine st_op (ev_move rfl) rfl rfl rfl ?_
    refine st_op (ev_fieldAddr rfl fa24_3 (o' := 3) rfl) rfl rfl rfl ?_
    have hx41 : Ext H8 H34 := (Ext.then hx32 hx35 (fun q hq e => by omega))
    have h40 := Ext.blk hx41 (by omega) h13
    refine st_op (ev_load rfl (lvar_one one9 h40 rfl)) rfl rfl rfl ?_
    refine st_op (ev_lenStr rfl Try.underlying9) rfl rfl rfl ?_
    refine st_call rfl rfl rfl ent26 rfl rfl rfl ?_
    obtain ⟨_, H43, hs42, A45, c46, hs42v, hm47, hq48, hx44⟩ := num_Put_spec H34 H8 A36 (((([] : List Int) ++ Spec.enc (Spec.zig s_index)) ++ Spec.enc (Spec.zig s_term)) ++ Spec.enc (Spec.zig (s_conf.size : Int)) ++ Spec.bytesOf s_conf) c37 hm38 (by omega) (by first | omega | (simp only [List.length_append, List.length_cons, List.length_nil, List.length_map, List.length_set, List.length_replicate, Spec.bytesOf_length]; omega) | (simp; omega)) ((s_data).size : Int) ⟨by omega, by omega⟩
    rw [hs42v] at hs42; clear hs42v
    refine ⟨_, H43, hs42, ?_⟩
    have H43n : H34.next ≤ H43.next := hx44.1
    refine st_call rfl rfl rfl ent25 rfl rfl rfl ?_
    obtain ⟨_, H50, hs49, A52, c53, hs49v, hm54, hq55, hq56, hx51⟩ := frame_Seal_spec H43 3 (by decide) A45 ((((([] : List Int) ++ Spec.enc (Spec.zig s_index)) ++ Spec.enc (Spec.zig s_term)) ++ Spec.enc (Spec.zig (s_conf.size : Int)) ++ Spec.bytesOf s_conf) ++ Spec.enc (Spec.zig ((s_data).size : Int))) c46 (My.row hm47) (My.capF hm47 (by first | omega | (simp only [List.length_append, List.length_cons, List.length_nil, List.length_map, List.length_set, List.length_replicate, Spec.bytesOf_length]; omega) | (simp; omega))) (by first | omega | (simp only [List.length_append, List.length_cons, List.length_nil, List.length_map, List.length_set, List.length_replicate, Spec.bytesOf_length]; omega) | (simp; omega)) (by first | assumption | exact Spec.Bytes.nil | exact Spec.bytes_of _ | (repeat' first | assumption | exact Spec.Bytes.nil | exact Spec.bytes_of _ | exact Spec.enc_bytes _ | exact Spec.four_bytes _ | exact Spec.sealF_bytes (by assumption) | apply Spec.Bytes.append | apply Spec.Bytes.cons (by omega) | apply Spec.Bytes.take | apply Spec.Bytes.drop))
    rw [hs49v] at hs49; clear hs49v
    refine ⟨_, H50, hs49, ?_⟩
    have H50n : H43.next ≤ H50.next := hx51.1
    refine st_op (ev_assign rfl) rfl rfl rfl ?_
    try show aw _ _ _ _ _ _
    refine aw_seq ?_
    refine aw_seq ?_
    refine aw_reg ?_
    refine st_op (ev_fieldAddr rfl fa24_3 (o' := 3) rfl) rfl rfl rfl ?_
    have hx58 : Ext H8 H50 := (Ext.trans (Ext.then hx41 hx44 (fun q hq e => by omega)) hx51)
    have h57 := Ext.blk hx58 (by omega) h13
    refine st_op (ev_load rfl (lvar_one one9 h57 rfl)) rfl rfl rfl ?_
    refine st_op (ev_assign rfl) rfl rfl rfl ?_
    try show aw _ _ _ _ _ _
    refine aw_block ?_
    refine aw_keep [4, 5] (l' := (.cons 4 (.slice A52 ((Spec.sealF (3 : Int) ((((([] : List Int) ++ Spec.enc (Spec.zig s_index)) ++ Spec.enc (Spec.zig s_term)) ++ Spec.enc (Spec.zig (s_conf.size : Int)) ++ Spec.bytesOf s_conf) ++ Spec.enc (Spec.zig ((s_data).size : Int)))).length) c53) (.cons 5 (.string s_data) .nil))) (by repeat (first | exact Up.done | refine Up.then ?_ | refine Up.inBlock ?_)) rfl ?_
    refine aw_iter (α := ByteArray × Option Addr × Nat × List Int × Heap) (fun a => a.1.size) (fun a => (.cons 4 (.slice a.2.1 a.2.2.2.1.length a.2.2.1) (.cons 5 (.string a.1) .nil))) (fun a => a.2.2.2.2) (fun a => ((Spec.sealF (3 : Int) ((((([] : List Int) ++ Spec.enc (Spec.zig s_index)) ++ Spec.enc (Spec.zig s_term)) ++ Spec.enc (Spec.zig (s_conf.size : Int)) ++ Spec.bytesOf s_conf) ++ Spec.enc (Spec.zig ((s_data).size : Int)))) ++ Spec.partsF (Spec.bytesOf s_data) = a.2.2.2.1 ++ Spec.partsF (Spec.bytesOf a.1)) ∧ (a.1.size ≤ 200000) ∧ (a.2.2.2.1.length + 10000 * a.1.size ≤ 4100000000) ∧ (My H43 a.2.2.2.2 a.2.1 a.2.2.1 1 (a.2.2.2.1.map u8c)) ∧ (Fr (fun q => (H43.next ≤ q ∧ q < H50.next ∧ ZB H50 q 1)) H50 a.2.2.2.2)) (s_data, A52, c53, (Spec.sealF (3 : Int) ((((([] : List Int) ++ Spec.enc (Spec.zig s_index)) ++ Spec.enc (Spec.zig s_term)) ++ Spec.enc (Spec.zig (s_conf.size : Int)) ++ Spec.bytesOf s_conf) ++ Spec.enc (Spec.zig ((s_data).size : Int)))), H50) ⟨(show (Spec.sealF (3 : Int) ((((([] : List Int) ++ Spec.enc (Spec.zig s_index)) ++ Spec.enc (Spec.zig s_term)) ++ Spec.enc (Spec.zig (s_conf.size : Int)) ++ Spec.bytesOf s_conf) ++ Spec.enc (Spec.zig ((s_data).size : Int)))) ++ Spec.partsF (Spec.bytesOf s_data) = (Spec.sealF (3 : Int) ((((([] : List Int) ++ Spec.enc (Spec.zig s_index)) ++ Spec.enc (Spec.zig s_term)) ++ Spec.enc (Spec.zig (s_conf.size : Int)) ++ Spec.bytesOf s_conf) ++ Spec.enc (Spec.zig ((s_data).size : Int)))) ++ Spec.partsF (Spec.bytesOf s_data) from rfl), (show s_data.size ≤ 200000 from (by omega)), (show (Spec.sealF (3 : Int) ((((([] : List Int) ++ Spec.enc (Spec.zig s_index)) ++ Spec.enc (Spec.zig s_term)) ++ Spec.enc (Spec.zig (s_conf.size : Int)) ++ Spec.bytesOf s_conf) ++ Spec.enc (Spec.zig ((s_data).size : Int)))).length + 10000 * s_data.size ≤ 4100000000 from (by have : (Spec.sealF (3 : Int) ((((([] : List Int) ++ Spec.enc (Spec.zig s_index)) ++ Spec.enc (Spec.zig s_term)) ++ Spec.enc (Spec.zig (s_conf.size : Int)) ++ Spec.bytesOf s_conf) ++ Spec.enc (Spec.zig ((s_data).size : Int)))).length ≤ 4007 := Spec.sealF_len; omega)), (show My H43 H50 A52 c53 1 ((Spec.sealF (3 : Int) ((((([] : List Int) ++ Spec.enc (Spec.zig s_index)) ++ Spec.enc (Spec.zig s_term)) ++ Spec.enc (Spec.zig (s_conf.size : Int)) ++ Spec.bytesOf s_conf) ++ Spec.enc (Spec.zig ((s_data).size : Int)))).map u8c) from hm54), (show Fr (fun q => (H43.next ≤ q ∧ q < H50.next ∧ ZB H50 q 1)) H50 H50 from (Fr.refl _ H50))⟩ ?_
    rintro ⟨rest, A, cp, out, Hl59⟩ ⟨hS, hsz, hL, hm60, hxl61⟩ ih62
    replace hS : (Spec.sealF (3 : Int) ((((([] : List Int) ++ Spec.enc (Spec.zig s_index)) ++ Spec.enc (Spec.zig s_term)) ++ Spec.enc (Spec.zig (s_conf.size : Int)) ++ Spec.bytesOf s_conf) ++ Spec.enc (Spec.zig ((s_data).size : Int)))) ++ Spec.partsF (Spec.bytesOf s_data) = out ++ Spec.partsF (Spec.bytesOf rest) := hS
    replace hsz : rest.size ≤ 200000 := hsz
    replace hL : out.length + 10000 * rest.size ≤ 4100000000 := hL
    replace hm60 : My H43 Hl59 A cp 1 (out.map u8c) := hm60
    replace hxl61 : Fr (fun q => (H43.next ≤ q ∧ q < H50.next ∧ ZB H50 q 1)) H50 Hl59 := hxl61
    show aw _ _ _ (RL _ (.cons 4 (.slice A out.length cp) (.cons 5 (.string rest) .nil))) Hl59 _
    have Hl59n : H50.next ≤ Hl59.next := hxl61.1
    refine aw_seq ?_
    refine aw_seq ?_
    refine aw_reg ?_
    refine st_op (ev_move rfl) rfl rfl rfl ?_
    refine st_op (ev_str rfl rfl rfl) rfl rfl rfl ?_
    try show aw _ _ _ _ _ _
    by_cases hc63 : (!((rest).toList == (⟨#[]⟩ : ByteArray).toList)) = true
    · refine aw_condT hc63 rfl ?_
      try show aw _ _ _ _ _ _
      replace hc63 : ((rest).toList == (⟨#[]⟩ : ByteArray).toList) = false := by rw [Bool.not_eq_true'] at hc63; exact hc63
      have hc63 := ne_of_beq_false hc63
      refine aw_skip ?_
      try show aw _ _ _ _ _ _
      refine aw_block ?_
      refine aw_seq ?_
      refine aw_reg ?_
      refine st_op (ev_move rfl) rfl rfl rfl ?_
      refine st_op (ev_lenStr rfl Try.underlying9) rfl rfl rfl ?_
      obtain ⟨z64, hz65, hz66⟩ : ∃ z, (if 3000 < ((rest).size : Int) then 3000 else ((rest).size : Int)) = z ∧ (((rest).size : Int) ≥ z ∧ 3000 ≥ z ∧ (z = ((rest).size : Int) ∨ z = 3000)) := ⟨_, rfl, by split <;> omega⟩
      refine st_op (ev_minE hz65 rfl rfl) rfl rfl rfl ?_
      have hP := Spec.parts_next (s := rest) (z := z64) (by assumption) hz65.symm
      refine st_op (ev_assign rfl) rfl rfl rfl ?_
      try show aw _ _ _ _ _ _
      refine aw_seq ?_
      refine aw_reg ?_
      refine st_op (ev_move rfl) rfl rfl rfl ?_
      refine st_op (ev_move rfl) rfl rfl rfl ?_
      refine st_op (ev_move rfl) rfl rfl rfl ?_
      refine st_op (ev_slStr Try.underlying9 rfl rfl rfl (bound_int (by omega) (by omega) rfl) rfl) rfl rfl rfl ?_
      obtain ⟨A67, c68, H69, he70, hm71, hx72⟩ := mem_bytes Hl59 ((rest).extract 0 ((z64).toNat)) slu8_29 isstr_9 (by omega)
      refine st_op (he70 _ _ _ _ _ _ _ _ rfl) rfl rfl rfl ?_
      have H69n : Hl59.next ≤ H69.next := hx72.1
      refine st_call rfl rfl rfl ent25 rfl rfl rfl ?_
      obtain ⟨_, H74, hs73, A76, c77, hs73v, hm78, hq79, hq80, hx75⟩ := frame_Seal_spec H69 4 (by decide) A67 (Spec.bytesOf ((rest).extract 0 ((z64).toNat))) c68 (My.row hm71) (My.capF hm71 (by first | omega | (simp only [List.length_append, List.length_cons, List.length_nil, List.length_map, List.length_set, List.length_replicate, Spec.bytesOf_length]; omega) | (simp; omega))) (by first | omega | (simp only [List.length_append, List.length_cons, List.length_nil, List.length_map, List.length_set, List.length_replicate, Spec.bytesOf_length]; omega) | (simp; omega)) (by first | assumption | exact Spec.Bytes.nil | exact Spec.bytes_of _ | (repeat' first | assumption | exact Spec.Bytes.nil | exact Spec.bytes_of _ | exact Spec.enc_bytes _ | exact Spec.four_bytes _ | exact Spec.sealF_bytes (by assumption) | apply Spec.Bytes.append | apply Spec.Bytes.cons (by omega) | apply Spec.Bytes.take | apply Spec.Bytes.drop))
      rw [hs73v] at hs73; clear hs73v
      refine ⟨_, H74, hs73, ?_⟩
      have H74n : H69.next ≤ H74.next := hx75.1
      have hx82 : Ext Hl59 H74 := (Ext.trans hx72 hx75)
      have h81 := My.ext hm60 hx82
      obtain ⟨A83, c84, H85, W86, he87, hm88, hf89⟩ := mem_append (f := u8c) (old := out) (new := (Spec.sealF (4 : Int) (Spec.bytesOf ((rest).extract 0 ((z64).toNat))))) (m := out.length) (mx := (Spec.sealF (4 : Int) (Spec.bytesOf ((rest).extract 0 ((z64).toNat)))).length) (c := cp) (by first | rfl | simp) (by first | rfl | simp) eok29 (by decide) hm60 h81 (by omega) (((My.row hm78)).srcF (by decide) (by first | rfl | simp)) rfl u8c_len u8c_one (by first | omega | (simp only [List.length_append, List.length_cons, List.length_nil, List.length_map, List.length_set, List.length_replicate, Spec.bytesOf_length]; omega) | (simp; omega)) (by first | omega | (simp only [List.length_append, List.length_cons, List.length_nil, List.length_map, List.length_set, List.length_replicate, Spec.bytesOf_length]; omega) | (simp; omega))
      refine st_op (he87 _ _ _ _ _ _ _ _ _ _ rfl rfl isrow29) rfl rfl rfl ?_
      have H85n : H74.next ≤ H85.next := hf89.1
      refine st_op (ev_assign rfl) rfl rfl rfl ?_
      try show aw _ _ _ _ _ _
      refine aw_reg ?_
      refine st_op (ev_move rfl) rfl rfl rfl ?_
      refine st_op (ev_move rfl) rfl rfl rfl ?_
      refine st_op (ev_slStr Try.underlying9 rfl rfl rfl rfl (bound_int (by omega) (by omega) rfl)) rfl rfl rfl ?_
      refine st_op (ev_assign rfl) rfl rfl rfl ?_
      try show aw _ _ _ _ _ _
      refine aw_keep [4, 5] (l' := (.cons 4 (.slice A83 ((out ++ (Spec.sealF (4 : Int) (Spec.bytesOf ((rest).extract 0 ((z64).toNat))))).length) c84) (.cons 5 (.string ((rest).extract (z64).toNat ((rest).size))) .nil))) (by repeat (first | exact Up.done | refine Up.then ?_ | refine Up.inBlock ?_)) rfl ?_
      exact ih62 (((rest).extract (z64).toNat ((rest).size)), A83, c84, (out ++ (Spec.sealF (4 : Int) (Spec.bytesOf ((rest).extract 0 ((z64).toNat))))), H85) ⟨(show (Spec.sealF (3 : Int) ((((([] : List Int) ++ Spec.enc (Spec.zig s_index)) ++ Spec.enc (Spec.zig s_term)) ++ Spec.enc (Spec.zig (s_conf.size : Int)) ++ Spec.bytesOf s_conf) ++ Spec.enc (Spec.zig ((s_data).size : Int)))) ++ Spec.partsF (Spec.bytesOf s_data) = (out ++ (Spec.sealF (4 : Int) (Spec.bytesOf ((rest).extract 0 ((z64).toNat))))) ++ Spec.partsF (Spec.bytesOf ((rest).extract (z64).toNat ((rest).size))) from (by rw [hS, hP.2.1, List.append_assoc])), (show ((rest).extract (z64).toNat ((rest).size)).size ≤ 200000 from (by omega)), (show (out ++ (Spec.sealF (4 : Int) (Spec.bytesOf ((rest).extract 0 ((z64).toNat))))).length + 10000 * ((rest).extract (z64).toNat ((rest).size)).size ≤ 4100000000 from (by rw [List.length_append]; have := @Spec.sealF_len 4 (Spec.bytesOf (rest.extract 0 z64.toNat)); have := hP.2.2.2; omega)), (show My H43 H85 A83 c84 1 ((out ++ (Spec.sealF (4 : Int) (Spec.bytesOf ((rest).extract 0 ((z64).toNat))))).map u8c) from hm88), (show Fr (fun q => (H43.next ≤ q ∧ q < H50.next ∧ ZB H50 q 1)) H50 H85 from (Fr.transG (Fr.trans (Fr.trans (Fr.transG (Fr.refl (fun q => (H43.next ≤ q ∧ q < H50.next ∧ ZB H50 q 1)) H50) hxl61 (fun q hq hE e => (⟨by omega, by omega, ZB.back hE e.2.2⟩))) (hx72.fr fun _ => False) (fun q hq (e : False) => e.elim)) (hx75.fr fun _ => False) (fun q hq (e : False) => e.elim)) hf89 (fun q hq hE e => (⟨by omega, by omega, ZB.back hE e.2.2⟩))))⟩ (by simp only; omega)
    · rw [Bool.not_eq_true] at hc63; refine aw_condF hc63 rfl ?_
      try show aw _ _ _ _ _ _
      replace hc63 : ((rest).toList == (⟨#[]⟩ : ByteArray).toList) = true := by rw [Bool.not_eq_false'] at hc63; exact hc63
      have hc63 := eq_of_beq hc63
      refine aw_exit ?_
      try show aw _ _ _ _ _ _
      refine aw_seq ?_
      refine aw_reg ?_
      refine st_op (ev_move rfl) rfl rfl rfl ?_
      refine st_op (ev_assign rfl) rfl rfl rfl ?_
      try show aw _ _ _ _ _ _
      refine aw_ret ?_
      have hx90 : Ext H Hl59 := (Ext.then (Ext.trans (Ext.then (Ext.then (Ext.then (Ext.then (Ext.trans hx6 hx9) hx17 (fun q hq e => by omega)) hx26 (fun q hq e => by omega)) hx35 (fun q hq e => by omega)) hx44 (fun q hq e => by omega)) hx51) hxl61 (fun q hq e => by omega))
      have hres : (Spec.snapF s_index s_term s_conf s_data) = out := by rw [Spec.snap_head (by assumption)]; exact hS.trans (by rw [show rest = ⟨#[]⟩ from Spec.toList_inj (by assumption)]; simp [Spec.bytesOf, Spec.partsF_nil])
      exact ⟨.slice A out.length cp, rfl, A, cp, by first | (rw [hres]; first | done | rfl | simp; done) | rfl, (by rw [hres]; exact (My.older hm60 (by omega))), (by exact Spec.snapF_bytes _ _ _ _), (by exact Spec.snapF_len _ _ _ _), (by exact ⟨fun h => absurd h (My.neF hm60 (by have := Spec.snapF_pos hc10; rw [hres] at this; omega)), fun h => Bool.noConfusion (h.symm.trans hc10)⟩), hx90⟩
theorem raft_May_spec (H : Heap) (kind : Int) (from_ : Int) (to_ : Int) (term : Int) (index : Int) (logterm : Int) (commit : Int) (yes : Bool) (esA : Option Addr) (es : List Entry) (esc : Nat) (hes : Row H esA esc 4 (es.map Entry.cells)) (ces : es.length ≤ esc) (les : es.length ≤ 1048576) (s_index : Int) (s_term : Int) (s_conf : ByteArray) (hs_conf : s_conf.size ≤ 1073741824) (s_data : ByteArray) (hs_data : s_data.size ≤ 1073741824) : ∃ v H', Spec Try.prog 23 [.agg #[.int .i64 kind, .int .i64 from_, .int .i64 to_, .int .i64 term, .int .i64 index, .int .i64 logterm, .int .i64 commit, .bool yes, .slice esA es.length esc, .int .i64 s_index, .int .i64 s_term, .string s_conf, .string s_data]] H v H' ∧ ((v = .bool (Spec.mayMsg kind from_ to_ term index logterm commit yes es s_index s_term s_conf s_data)) ∧ (Ext H H')) := by
  refine spec_go1 E0_ok 81 (f := 23) Try.func23 rfl rfl rfl ?_
  refine aw_seq ?_
  refine aw_reg ?_
  obtain ⟨b1, H2, he3, b1e, H2n_, hB5, f4⟩ := mem_box (P := Try.prog) H (v := .agg #[.int .i64 kind, .int .i64 from_, .int .i64 to_, .int .i64 term, .int .i64 index, .int .i64 logterm, .int .i64 commit, .bool yes, .slice esA es.length esc, .int .i64 s_index, .int .i64 s_term, .string s_conf, .string s_data]) (cs := [.int .i64 kind, .int .i64 from_, .int .i64 to_, .int .i64 term, .int .i64 index, .int .i64 logterm, .int .i64 commit, .bool yes, .slice esA es.length esc, .int .i64 s_index, .int .i64 s_term, .string s_conf, .string s_data]) rfl rfl
  refine st_op (he3 _ _ _ _ _ _ _ _ _ rfl) rfl rfl rfl ?_
  have hx6 : Ext H H2 := Ext.new (by omega) H2n_ f4
  have H2n : H.next ≤ H2.next := hx6.1
  refine st_op (ev_assign rfl) rfl rfl rfl ?_
  try show aw _ _ _ _ _ _
  refine aw_seq ?_
  refine aw_seq ?_
  refine aw_reg ?_
  refine st_op (ev_fieldAddr rfl fa26_0 (o' := 0) rfl) rfl rfl rfl ?_
  refine st_op (ev_load rfl (lvar_one one3 hB5 rfl)) rfl rfl rfl ?_
  refine st_op (ev_int rfl rfl rfl) rfl rfl rfl ?_
  refine st_op (ev_move rfl) rfl rfl rfl ?_
  refine st_bool 8 rfl (fun hb7 => ?_) (fun hb7 => ?_)
  ·
    have hb7 := of_decide_eq_true hb7
    refine st_skip rfl rfl rfl ?_
    refine st_skip rfl rfl rfl ?_
    refine st_skip rfl rfl rfl ?_
    refine st_op (ev_pickT rfl rfl) rfl rfl rfl ?_
    refine st_op (ev_move rfl) rfl rfl rfl ?_
    refine st_skip rfl rfl rfl ?_
    refine st_skip rfl rfl rfl ?_
    refine st_skip rfl rfl rfl ?_
    refine st_skip rfl rfl rfl ?_
    refine st_op (ev_pickT rfl rfl) rfl rfl rfl ?_
    refine st_op (ev_move rfl) rfl rfl rfl ?_
    refine st_skip rfl rfl rfl ?_
    refine st_skip rfl rfl rfl ?_
    refine st_skip rfl rfl rfl ?_
    refine st_skip rfl rfl rfl ?_
    refine st_op (ev_pickT rfl rfl) rfl rfl rfl ?_
    refine st_op (ev_move rfl) rfl rfl rfl ?_
    refine st_skip rfl rfl rfl ?_
    refine st_skip rfl rfl rfl ?_
    refine st_skip rfl rfl rfl ?_
    refine st_skip rfl rfl rfl ?_
    refine st_skip rfl rfl rfl ?_
    refine st_op (ev_pickT rfl rfl) rfl rfl rfl ?_
    refine st_op (ev_move rfl) rfl rfl rfl ?_
    refine st_skip rfl rfl rfl ?_
    refine st_skip rfl rfl rfl ?_
    refine st_skip rfl rfl rfl ?_
    refine st_skip rfl rfl rfl ?_
    refine st_skip rfl rfl rfl ?_
    refine st_skip rfl rfl rfl ?_
    refine st_skip rfl rfl rfl ?_
    refine st_skip rfl rfl rfl ?_
    refine st_skip rfl rfl rfl ?_
    refine st_op (ev_pickT rfl rfl) rfl rfl rfl ?_
    refine st_op (ev_move rfl) rfl rfl rfl ?_
    refine st_skip rfl rfl rfl ?_
    refine st_skip rfl rfl rfl ?_
    refine st_skip rfl rfl rfl ?_
    refine st_op (ev_pickT rfl rfl) rfl rfl rfl ?_
    try show aw _ _ _ _ _ _
    refine aw_cond (t := true) rfl ?_
    try show aw _ _ _ _ _ _
    refine aw_seq ?_
    refine aw_reg ?_
    refine st_op (ev_assign rfl) rfl rfl rfl ?_
    try show aw _ _ _ _ _ _
    refine aw_ret ?_
    have hres : (Spec.mayMsg kind from_ to_ term index logterm commit yes es s_index s_term s_conf s_data) = false := by first | exact Spec.mayMsg_f1 (by omega) | exact Spec.mayMsg_f2 (by assumption) | exact Spec.mayMsg_f3 (by assumption) (by omega) (by omega) | (rw [Spec.mayMsg_last (by omega) (by assumption) (fun h => by first | omega | exact Bool.noConfusion (h.symm.trans (show yes = false by assumption)))]; rw [if_pos (by omega), show (Spec.decC s_conf).2 = false by assumption]; rfl)
    exact ⟨.bool false, rfl, by first | (rw [hres]; done) | rw [← hres], hx6⟩
  ·
    have hb7 := of_decide_eq_false hb7
    refine st_op (ev_fieldAddr rfl fa26_0 (o' := 0) rfl) rfl rfl rfl ?_
    refine st_op (ev_load rfl (lvar_one one3 hB5 rfl)) rfl rfl rfl ?_
    refine st_op (ev_int rfl rfl rfl) rfl rfl rfl ?_
    refine st_op (ev_pickF rfl rfl) rfl rfl rfl ?_
    refine st_op (ev_move rfl) rfl rfl rfl ?_
    refine st_bool 13 rfl (fun hb8 => ?_) (fun hb8 => ?_)
    ·
      have hb8 := of_decide_eq_true hb8
      refine st_skip rfl rfl rfl ?_
      refine st_skip rfl rfl rfl ?_
      refine st_skip rfl rfl rfl ?_
      refine st_skip rfl rfl rfl ?_
      refine st_op (ev_pickT rfl rfl) rfl rfl rfl ?_
      refine st_op (ev_move rfl) rfl rfl rfl ?_
      refine st_skip rfl rfl rfl ?_
      refine st_skip rfl rfl rfl ?_
      refine st_skip rfl rfl rfl ?_
      refine st_skip rfl rfl rfl ?_
      refine st_op (ev_pickT rfl rfl) rfl rfl rfl ?_
      refine st_op (ev_move rfl) rfl rfl rfl ?_
      refine st_skip rfl rfl rfl ?_
      refine st_skip rfl rfl rfl ?_
      refine st_skip rfl rfl rfl ?_
      refine st_skip rfl rfl rfl ?_
      refine st_skip rfl rfl rfl ?_
      refine st_op (ev_pickT rfl rfl) rfl rfl rfl ?_
      refine st_op (ev_move rfl) rfl rfl rfl ?_
      refine st_skip rfl rfl rfl ?_
      refine st_skip rfl rfl rfl ?_
      refine st_skip rfl rfl rfl ?_
      refine st_skip rfl rfl rfl ?_
      refine st_skip rfl rfl rfl ?_
      refine st_skip rfl rfl rfl ?_
      refine st_skip rfl rfl rfl ?_
      refine st_skip rfl rfl rfl ?_
      refine st_skip rfl rfl rfl ?_
      refine st_op (ev_pickT rfl rfl) rfl rfl rfl ?_
      refine st_op (ev_move rfl) rfl rfl rfl ?_
      refine st_skip rfl rfl rfl ?_
      refine st_skip rfl rfl rfl ?_
      refine st_skip rfl rfl rfl ?_
      refine st_op (ev_pickT rfl rfl) rfl rfl rfl ?_
      try show aw _ _ _ _ _ _
      refine aw_cond (t := true) rfl ?_
      try show aw _ _ _ _ _ _
      refine aw_seq ?_
      refine aw_reg ?_
      refine st_op (ev_assign rfl) rfl rfl rfl ?_
      try show aw _ _ _ _ _ _
      refine aw_ret ?_
      have hres : (Spec.mayMsg kind from_ to_ term index logterm commit yes es s_index s_term s_conf s_data) = false := by first | exact Spec.mayMsg_f1 (by omega) | exact Spec.mayMsg_f2 (by assumption) | exact Spec.mayMsg_f3 (by assumption) (by omega) (by omega) | (rw [Spec.mayMsg_last (by omega) (by assumption) (fun h => by first | omega | exact Bool.noConfusion (h.symm.trans (show yes = false by assumption)))]; rw [if_pos (by omega), show (Spec.decC s_conf).2 = false by assumption]; rfl)
      exact ⟨.bool false, rfl, by first | (rw [hres]; done) | rw [← hres], hx6⟩
    ·
      have hb8 := of_decide_eq_false hb8
      refine st_op (ev_fieldAddr rfl fa26_1 (o' := 1) rfl) rfl rfl rfl ?_
      refine st_op (ev_load rfl (lvar_one one3 hB5 rfl)) rfl rfl rfl ?_
      refine st_call rfl rfl rfl ent40 rfl rfl rfl ?_
      obtain ⟨_, H10, hs9, hs9v, hx11⟩ := raft_server_spec H2 from_
      rw [hs9v] at hs9; clear hs9v
      refine ⟨_, H10, hs9, ?_⟩
      have H10n : H2.next ≤ H10.next := hx11.1
      refine st_op (ev_not rfl) rfl rfl rfl ?_
      refine st_op (ev_pickF rfl rfl) rfl rfl rfl ?_
      refine st_op (ev_move rfl) rfl rfl rfl ?_
      refine st_bool 19 rfl (fun hb12 => ?_) (fun hb12 => ?_)
      ·
        replace hb12 : (decide (1 ≤ from_ ∧ from_ ≤ 7)) = false := by rw [Bool.not_eq_true'] at hb12; exact hb12
        have hb12 := of_decide_eq_false hb12
        refine st_skip rfl rfl rfl ?_
        refine st_skip rfl rfl rfl ?_
        refine st_skip rfl rfl rfl ?_
        refine st_skip rfl rfl rfl ?_
        refine st_op (ev_pickT rfl rfl) rfl rfl rfl ?_
        refine st_op (ev_move rfl) rfl rfl rfl ?_
        refine st_skip rfl rfl rfl ?_
        refine st_skip rfl rfl rfl ?_
        refine st_skip rfl rfl rfl ?_
        refine st_skip rfl rfl rfl ?_
        refine st_skip rfl rfl rfl ?_
        refine st_op (ev_pickT rfl rfl) rfl rfl rfl ?_
        refine st_op (ev_move rfl) rfl rfl rfl ?_
        refine st_skip rfl rfl rfl ?_
        refine st_skip rfl rfl rfl ?_
        refine st_skip rfl rfl rfl ?_
        refine st_skip rfl rfl rfl ?_
        refine st_skip rfl rfl rfl ?_
        refine st_skip rfl rfl rfl ?_
        refine st_skip rfl rfl rfl ?_
        refine st_skip rfl rfl rfl ?_
        refine st_skip rfl rfl rfl ?_
        refine st_op (ev_pickT rfl rfl) rfl rfl rfl ?_
        refine st_op (ev_move rfl) rfl rfl rfl ?_
        refine st_skip rfl rfl rfl ?_
        refine st_skip rfl rfl rfl ?_
        refine st_skip rfl rfl rfl ?_
        refine st_op (ev_pickT rfl rfl) rfl rfl rfl ?_
        try show aw _ _ _ _ _ _
        refine aw_cond (t := true) rfl ?_
        try show aw _ _ _ _ _ _
        refine aw_seq ?_
        refine aw_reg ?_
        refine st_op (ev_assign rfl) rfl rfl rfl ?_
        try show aw _ _ _ _ _ _
        refine aw_ret ?_
        have hx13 : Ext H H10 := (Ext.trans hx6 hx11)
        have hres : (Spec.mayMsg kind from_ to_ term index logterm commit yes es s_index s_term s_conf s_data) = false := by first | exact Spec.mayMsg_f1 (by omega) | exact Spec.mayMsg_f2 (by assumption) | exact Spec.mayMsg_f3 (by assumption) (by omega) (by omega) | (rw [Spec.mayMsg_last (by omega) (by assumption) (fun h => by first | omega | exact Bool.noConfusion (h.symm.trans (show yes = false by assumption)))]; rw [if_pos (by omega), show (Spec.decC s_conf).2 = false by assumption]; rfl)
        exact ⟨.bool false, rfl, by first | (rw [hres]; done) | rw [← hres], hx13⟩
      ·
        replace hb12 : (decide (1 ≤ from_ ∧ from_ ≤ 7)) = true := by rw [Bool.not_eq_false'] at hb12; exact hb12
        have hb12 := of_decide_eq_true hb12
        refine st_op (ev_fieldAddr rfl fa26_2 (o' := 2) rfl) rfl rfl rfl ?_
        have h14 := Ext.blk hx11 (by omega) hB5
        refine st_op (ev_load rfl (lvar_one one3 h14 rfl)) rfl rfl rfl ?_
        refine st_call rfl rfl rfl ent40 rfl rfl rfl ?_
        obtain ⟨_, H16, hs15, hs15v, hx17⟩ := raft_server_spec H10 to_
        rw [hs15v] at hs15; clear hs15v
        refine ⟨_, H16, hs15, ?_⟩
        have H16n : H10.next ≤ H16.next := hx17.1
        refine st_op (ev_not rfl) rfl rfl rfl ?_
        refine st_op (ev_pickF rfl rfl) rfl rfl rfl ?_
        refine st_op (ev_move rfl) rfl rfl rfl ?_
        refine st_bool 25 rfl (fun hb18 => ?_) (fun hb18 => ?_)
        ·
          replace hb18 : (decide (1 ≤ to_ ∧ to_ ≤ 7)) = false := by rw [Bool.not_eq_true'] at hb18; exact hb18
          have hb18 := of_decide_eq_false hb18
          refine st_skip rfl rfl rfl ?_
          refine st_skip rfl rfl rfl ?_
          refine st_skip rfl rfl rfl ?_
          refine st_skip rfl rfl rfl ?_
          refine st_skip rfl rfl rfl ?_
          refine st_op (ev_pickT rfl rfl) rfl rfl rfl ?_
          refine st_op (ev_move rfl) rfl rfl rfl ?_
          refine st_skip rfl rfl rfl ?_
          refine st_skip rfl rfl rfl ?_
          refine st_skip rfl rfl rfl ?_
          refine st_skip rfl rfl rfl ?_
          refine st_skip rfl rfl rfl ?_
          refine st_skip rfl rfl rfl ?_
          refine st_skip rfl rfl rfl ?_
          refine st_skip rfl rfl rfl ?_
          refine st_skip rfl rfl rfl ?_
          refine st_op (ev_pickT rfl rfl) rfl rfl rfl ?_
          refine st_op (ev_move rfl) rfl rfl rfl ?_
          refine st_skip rfl rfl rfl ?_
          refine st_skip rfl rfl rfl ?_
          refine st_skip rfl rfl rfl ?_
          refine st_op (ev_pickT rfl rfl) rfl rfl rfl ?_
          try show aw _ _ _ _ _ _
          refine aw_cond (t := true) rfl ?_
          try show aw _ _ _ _ _ _
          refine aw_seq ?_
          refine aw_reg ?_
          refine st_op (ev_assign rfl) rfl rfl rfl ?_
          try show aw _ _ _ _ _ _
          refine aw_ret ?_
          have hx19 : Ext H H16 := (Ext.trans (Ext.trans hx6 hx11) hx17)
          have hres : (Spec.mayMsg kind from_ to_ term index logterm commit yes es s_index s_term s_conf s_data) = false := by first | exact Spec.mayMsg_f1 (by omega) | exact Spec.mayMsg_f2 (by assumption) | exact Spec.mayMsg_f3 (by assumption) (by omega) (by omega) | (rw [Spec.mayMsg_last (by omega) (by assumption) (fun h => by first | omega | exact Bool.noConfusion (h.symm.trans (show yes = false by assumption)))]; rw [if_pos (by omega), show (Spec.decC s_conf).2 = false by assumption]; rfl)
          exact ⟨.bool false, rfl, by first | (rw [hres]; done) | rw [← hres], hx19⟩
        ·
          replace hb18 : (decide (1 ≤ to_ ∧ to_ ≤ 7)) = true := by rw [Bool.not_eq_false'] at hb18; exact hb18
          have hb18 := of_decide_eq_true hb18
          refine st_op (ev_fieldAddr rfl fa26_3 (o' := 3) rfl) rfl rfl rfl ?_
          have h20 := Ext.blk hx17 (by omega) h14
          refine st_op (ev_load rfl (lvar_one one2 h20 rfl)) rfl rfl rfl ?_
          obtain ⟨b21, H22, he23, b21e, H22n_, hm25, f24⟩ := mem_lit H16 (xs := ([.int .i64 term] : List Value)) (m := 1) (rows := [[.int .i64 term]]) rfl eok77 (by decide) (by decide) zf2 rfl (allLen rfl) rfl
          replace hm25 : My H16 H22 (some ⟨b21, 0, none⟩) 1 1 ([term].map i64c) := hm25
          refine st_op (he23 _ _ _ _ _ _ _ _ rfl) rfl rfl rfl ?_
          have hx26 : Ext H16 H22 := Ext.new (by omega) H22n_ f24
          have H22n : H16.next ≤ H22.next := hx26.1
          refine st_call rfl rfl rfl ent41 rfl rfl rfl ?_
          obtain ⟨_, H28, hs27, hs27v, hx29⟩ := raft_in_spec H22 1 (by decide) (some ⟨b21, 0, none⟩) ([term]) 1 (My.row hm25) (My.capF hm25 (by first | omega | (simp only [List.length_append, List.length_cons, List.length_nil, List.length_map, List.length_set, List.length_replicate, Spec.bytesOf_length]; omega) | (simp; omega))) (by first | omega | (simp only [List.length_append, List.length_cons, List.length_nil, List.length_map, List.length_set, List.length_replicate, Spec.bytesOf_length]; omega) | (simp; omega))
          rw [hs27v] at hs27; clear hs27v
          refine ⟨_, H28, hs27, ?_⟩
          have H28n : H22.next ≤ H28.next := hx29.1
          refine st_op (ev_not rfl) rfl rfl rfl ?_
          refine st_op (ev_pickF rfl rfl) rfl rfl rfl ?_
          refine st_op (ev_move rfl) rfl rfl rfl ?_
          refine st_bool 32 rfl (fun hb30 => ?_) (fun hb30 => ?_)
          ·
            replace hb30 : (Spec.inF (1 : Int) 1099511627776 ([term])) = false := by rw [Bool.not_eq_true'] at hb30; exact hb30
            have hb30m := Spec.inF_oneN hb30
            refine st_skip rfl rfl rfl ?_
            refine st_skip rfl rfl rfl ?_
            refine st_skip rfl rfl rfl ?_
            refine st_skip rfl rfl rfl ?_
            refine st_skip rfl rfl rfl ?_
            refine st_skip rfl rfl rfl ?_
            refine st_skip rfl rfl rfl ?_
            refine st_skip rfl rfl rfl ?_
            refine st_skip rfl rfl rfl ?_
            refine st_op (ev_pickT rfl rfl) rfl rfl rfl ?_
            refine st_op (ev_move rfl) rfl rfl rfl ?_
            refine st_skip rfl rfl rfl ?_
            refine st_skip rfl rfl rfl ?_
            refine st_skip rfl rfl rfl ?_
            refine st_op (ev_pickT rfl rfl) rfl rfl rfl ?_
            try show aw _ _ _ _ _ _
            refine aw_cond (t := true) rfl ?_
            try show aw _ _ _ _ _ _
            refine aw_seq ?_
            refine aw_reg ?_
            refine st_op (ev_assign rfl) rfl rfl rfl ?_
            try show aw _ _ _ _ _ _
            refine aw_ret ?_
            have hx31 : Ext H H28 := (Ext.trans (Ext.trans (Ext.trans (Ext.trans hx6 hx11) hx17) hx26) hx29)
            have hres : (Spec.mayMsg kind from_ to_ term index logterm commit yes es s_index s_term s_conf s_data) = false := by first | exact Spec.mayMsg_f1 (by omega) | exact Spec.mayMsg_f2 (by assumption) | exact Spec.mayMsg_f3 (by assumption) (by omega) (by omega) | (rw [Spec.mayMsg_last (by omega) (by assumption) (fun h => by first | omega | exact Bool.noConfusion (h.symm.trans (show yes = false by assumption)))]; rw [if_pos (by omega), show (Spec.decC s_conf).2 = false by assumption]; rfl)
            exact ⟨.bool false, rfl, by first | (rw [hres]; done) | rw [← hres], hx31⟩
          ·
            replace hb30 : (Spec.inF (1 : Int) 1099511627776 ([term])) = true := by rw [Bool.not_eq_false'] at hb30; exact hb30
            have hb30m := Spec.inF_one hb30
            refine st_op (ev_fieldAddr rfl fa26_4 (o' := 4) rfl) rfl rfl rfl ?_
            have hx33 : Ext H16 H28 := (Ext.trans hx26 hx29)
            have h32 := Ext.blk hx33 (by omega) h20
            refine st_op (ev_load rfl (lvar_one one2 h32 rfl)) rfl rfl rfl ?_
            refine st_op (ev_fieldAddr rfl fa26_5 (o' := 5) rfl) rfl rfl rfl ?_
            refine st_op (ev_load rfl (lvar_one one2 h32 rfl)) rfl rfl rfl ?_
            refine st_op (ev_fieldAddr rfl fa26_6 (o' := 6) rfl) rfl rfl rfl ?_
            refine st_op (ev_load rfl (lvar_one one2 h32 rfl)) rfl rfl rfl ?_
            obtain ⟨b34, H35, he36, b34e, H35n_, hm38, f37⟩ := mem_lit H28 (xs := ([.int .i64 index, .int .i64 logterm, .int .i64 commit] : List Value)) (m := 3) (rows := [[.int .i64 index], [.int .i64 logterm], [.int .i64 commit]]) rfl eok77 (by decide) (by decide) zf2 rfl (allLen rfl) rfl
            replace hm38 : My H28 H35 (some ⟨b34, 0, none⟩) 3 1 ([index, logterm, commit].map i64c) := hm38
            refine st_op (he36 _ _ _ _ _ _ _ _ rfl) rfl rfl rfl ?_
            have hx39 : Ext H28 H35 := Ext.new (by omega) H35n_ f37
            have H35n : H28.next ≤ H35.next := hx39.1
            refine st_call rfl rfl rfl ent41 rfl rfl rfl ?_
            obtain ⟨_, H41, hs40, hs40v, hx42⟩ := raft_in_spec H35 0 (by decide) (some ⟨b34, 0, none⟩) ([index, logterm, commit]) 3 (My.row hm38) (My.capF hm38 (by first | omega | (simp only [List.length_append, List.length_cons, List.length_nil, List.length_map, List.length_set, List.length_replicate, Spec.bytesOf_length]; omega) | (simp; omega))) (by first | omega | (simp only [List.length_append, List.length_cons, List.length_nil, List.length_map, List.length_set, List.length_replicate, Spec.bytesOf_length]; omega) | (simp; omega))
            rw [hs40v] at hs40; clear hs40v
            refine ⟨_, H41, hs40, ?_⟩
            have H41n : H35.next ≤ H41.next := hx42.1
            refine st_op (ev_not rfl) rfl rfl rfl ?_
            refine st_op (ev_pickF rfl rfl) rfl rfl rfl ?_
            refine st_op (ev_move rfl) rfl rfl rfl ?_
            refine st_bool 43 rfl (fun hb43 => ?_) (fun hb43 => ?_)
            ·
              replace hb43 : (Spec.inF (0 : Int) 1099511627776 ([index, logterm, commit])) = false := by rw [Bool.not_eq_true'] at hb43; exact hb43
              have hb43m := Spec.inF_threeN hb43
              refine st_skip rfl rfl rfl ?_
              refine st_skip rfl rfl rfl ?_
              refine st_skip rfl rfl rfl ?_
              refine st_op (ev_pickT rfl rfl) rfl rfl rfl ?_
              try show aw _ _ _ _ _ _
              refine aw_cond (t := true) rfl ?_
              try show aw _ _ _ _ _ _
              refine aw_seq ?_
              refine aw_reg ?_
              refine st_op (ev_assign rfl) rfl rfl rfl ?_
              try show aw _ _ _ _ _ _
              refine aw_ret ?_
              have hx44 : Ext H H41 := (Ext.trans (Ext.trans (Ext.trans (Ext.trans (Ext.trans (Ext.trans hx6 hx11) hx17) hx26) hx29) hx39) hx42)
              have hres : (Spec.mayMsg kind from_ to_ term index logterm commit yes es s_index s_term s_conf s_data) = false := by first | exact Spec.mayMsg_f1 (by omega) | exact Spec.mayMsg_f2 (by assumption) | exact Spec.mayMsg_f3 (by assumption) (by omega) (by omega) | (rw [Spec.mayMsg_last (by omega) (by assumption) (fun h => by first | omega | exact Bool.noConfusion (h.symm.trans (show yes = false by assumption)))]; rw [if_pos (by omega), show (Spec.decC s_conf).2 = false by assumption]; rfl)
              exact ⟨.bool false, rfl, by first | (rw [hres]; done) | rw [← hres], hx44⟩
            ·
              replace hb43 : (Spec.inF (0 : Int) 1099511627776 ([index, logterm, commit])) = true := by rw [Bool.not_eq_false'] at hb43; exact hb43
              have hb43m := Spec.inF_three hb43
              have hx46 : Ext H28 H41 := (Ext.trans hx39 hx42)
              have h45 := Ext.blk hx46 (by omega) h32
              refine st_op (ev_load rfl (lvar_part (l := [.int .i64 kind, .int .i64 from_, .int .i64 to_, .int .i64 term, .int .i64 index, .int .i64 logterm, .int .i64 commit, .bool yes, .slice esA es.length esc, .int .i64 s_index, .int .i64 s_term, .string s_conf, .string s_data]) many26 h45 rfl rfl (by decide))) rfl rfl rfl ?_
              refine st_call rfl rfl rfl ent42 rfl rfl rfl ?_
              have hx48 : Ext H H41 := (Ext.trans (Ext.trans (Ext.trans (Ext.trans (Ext.trans (Ext.trans hx6 hx11) hx17) hx26) hx29) hx39) hx42)
              have h47 := Row.ext hes hx48
              obtain ⟨_, H50, hs49, hs49v, hx51⟩ := raft_entries_spec H41 kind from_ to_ term index ⟨by omega, by omega⟩ logterm commit yes esA es esc h47 ces (by first | omega | (simp only [List.length_append, List.length_cons, List.length_nil, List.length_map, List.length_set, List.length_replicate, Spec.bytesOf_length]; omega) | (simp; omega)) s_index s_term s_conf (by first | omega | (simp only [List.length_append, List.length_cons, List.length_nil, List.length_map, List.length_set, List.length_replicate, Spec.bytesOf_length]; omega) | (simp; omega)) s_data (by first | omega | (simp only [List.length_append, List.length_cons, List.length_nil, List.length_map, List.length_set, List.length_replicate, Spec.bytesOf_length]; omega) | (simp; omega))
              rw [hs49v] at hs49; clear hs49v
              refine ⟨_, H50, hs49, ?_⟩
              have H50n : H41.next ≤ H50.next := hx51.1
              refine st_op (ev_not rfl) rfl rfl rfl ?_
              refine st_op (ev_pickF rfl rfl) rfl rfl rfl ?_
              try show aw _ _ _ _ _ _
              by_cases hc52 : (!(Spec.entR term index logterm es && decide (es.length ≤ 8 ∧ (es.length = 0 ∨ kind = 3)))) = true
              · refine aw_condT hc52 rfl ?_
                try show aw _ _ _ _ _ _
                replace hc52 : (Spec.entR term index logterm es && decide (es.length ≤ 8 ∧ (es.length = 0 ∨ kind = 3))) = false := by rw [Bool.not_eq_true'] at hc52; exact hc52
                refine aw_seq ?_
                refine aw_reg ?_
                refine st_op (ev_assign rfl) rfl rfl rfl ?_
                try show aw _ _ _ _ _ _
                refine aw_ret ?_
                have hx53 : Ext H H50 := (Ext.trans hx48 hx51)
                have hres : (Spec.mayMsg kind from_ to_ term index logterm commit yes es s_index s_term s_conf s_data) = false := by first | exact Spec.mayMsg_f1 (by omega) | exact Spec.mayMsg_f2 (by assumption) | exact Spec.mayMsg_f3 (by assumption) (by omega) (by omega) | (rw [Spec.mayMsg_last (by omega) (by assumption) (fun h => by first | omega | exact Bool.noConfusion (h.symm.trans (show yes = false by assumption)))]; rw [if_pos (by omega), show (Spec.decC s_conf).2 = false by assumption]; rfl)
                exact ⟨.bool false, rfl, by first | (rw [hres]; done) | rw [← hres], hx53⟩
              · rw [Bool.not_eq_true] at hc52; refine aw_condF hc52 rfl ?_
                try show aw _ _ _ _ _ _
                replace hc52 : (Spec.entR term index logterm es && decide (es.length ≤ 8 ∧ (es.length = 0 ∨ kind = 3))) = true := by rw [Bool.not_eq_false'] at hc52; exact hc52
                refine aw_skip ?_
                try show aw _ _ _ _ _ _
                refine aw_seq ?_
                refine aw_seq ?_
                refine aw_reg ?_
                refine st_op (ev_fieldAddr rfl fa26_7 (o' := 7) rfl) rfl rfl rfl ?_
                have h54 := Ext.blk hx51 (by omega) h45
                refine st_op (ev_load rfl (lvar_one one4 h54 rfl)) rfl rfl rfl ?_
                refine st_op (ev_move rfl) rfl rfl rfl ?_
                refine st_bool 50 rfl (fun hb55 => ?_) (fun hb55 => ?_)
                ·
                  refine st_op (ev_fieldAddr rfl fa26_0 (o' := 0) rfl) rfl rfl rfl ?_
                  refine st_op (ev_load rfl (lvar_one one3 h54 rfl)) rfl rfl rfl ?_
                  refine st_op (ev_int rfl rfl rfl) rfl rfl rfl ?_
                  refine st_op (ev_pickT rfl rfl) rfl rfl rfl ?_
                  refine st_op (ev_move rfl) rfl rfl rfl ?_
                  refine st_bool 55 rfl (fun hb56 => ?_) (fun hb56 => ?_)
                  ·
                    have hb56 : ¬ (kind = 2) := by simpa using hb56
                    refine st_op (ev_fieldAddr rfl fa26_0 (o' := 0) rfl) rfl rfl rfl ?_
                    refine st_op (ev_load rfl (lvar_one one3 h54 rfl)) rfl rfl rfl ?_
                    refine st_op (ev_int rfl rfl rfl) rfl rfl rfl ?_
                    refine st_op (ev_pickT rfl rfl) rfl rfl rfl ?_
                    try show aw _ _ _ _ _ _
                    by_cases hc57 : (kind != 4) = true
                    · refine aw_condT hc57 rfl ?_
                      try show aw _ _ _ _ _ _
                      have hc57 : ¬ (kind = 4) := by simpa using hc57
                      refine aw_seq ?_
                      refine aw_reg ?_
                      refine st_op (ev_assign rfl) rfl rfl rfl ?_
                      try show aw _ _ _ _ _ _
                      refine aw_ret ?_
                      have hx58 : Ext H H50 := (Ext.trans hx48 hx51)
                      have hres : (Spec.mayMsg kind from_ to_ term index logterm commit yes es s_index s_term s_conf s_data) = false := by first | exact Spec.mayMsg_f1 (by omega) | exact Spec.mayMsg_f2 (by assumption) | exact Spec.mayMsg_f3 (by assumption) (by omega) (by omega) | (rw [Spec.mayMsg_last (by omega) (by assumption) (fun h => by first | omega | exact Bool.noConfusion (h.symm.trans (show yes = false by assumption)))]; rw [if_pos (by omega), show (Spec.decC s_conf).2 = false by assumption]; rfl)
                      exact ⟨.bool false, rfl, by first | (rw [hres]; done) | rw [← hres], hx58⟩
                    · rw [Bool.not_eq_true] at hc57; refine aw_condF hc57 rfl ?_
                      try show aw _ _ _ _ _ _
                      have hc57 : (kind = 4) := by simpa using hc57
                      refine aw_skip ?_
                      try show aw _ _ _ _ _ _
                      refine aw_seq ?_
                      refine aw_seq ?_
                      refine aw_reg ?_
                      refine st_op (ev_fieldAddr rfl fa26_0 (o' := 0) rfl) rfl rfl rfl ?_
                      refine st_op (ev_load rfl (lvar_one one3 h54 rfl)) rfl rfl rfl ?_
                      refine st_op (ev_int rfl rfl rfl) rfl rfl rfl ?_
                      try show aw _ _ _ _ _ _
                      by_cases hc59 : (kind != 5) = true
                      · refine aw_condT hc59 rfl ?_
                        try show aw _ _ _ _ _ _
                        have hc59 : ¬ (kind = 5) := by simpa using hc59
                        refine aw_seq ?_
                        refine aw_reg ?_
                        refine st_op (ev_fieldAddr rfl fa26_9 (o' := 9) rfl) rfl rfl rfl ?_
                        refine st_op (ev_load rfl (lvar_part (l := [.int .i64 s_index, .int .i64 s_term, .string s_conf, .string s_data]) many24 h54 rfl rfl (by decide))) rfl rfl rfl ?_
                        refine st_op (ev_build zero24 pl24 (parts := []) rfl (cs := [.int .i64 0, .int .i64 0, .string (⟨#[]⟩), .string (⟨#[]⟩)]) rfl) rfl rfl rfl ?_
                        obtain ⟨q60, hq61, hi62⟩ : ∃ q, bin.eqCells [.int .i64 s_index, .int .i64 s_term, .string s_conf, .string s_data] [.int .i64 0, .int .i64 0, .string (⟨#[]⟩), .string (⟨#[]⟩)] = some q ∧ (q = true ↔ s_index = 0 ∧ s_term = 0 ∧ s_conf = (⟨#[]⟩ : ByteArray) ∧ s_data = (⟨#[]⟩ : ByteArray)) := ⟨_, rfl, by simp [Bool.and_eq_true, ba_beq]⟩
                        refine st_op (ev_agg rfl rfl (by rw [eqt24, show fitAgg Try.prog 24 (#[.int .i64 s_index, .int .i64 s_term, .string s_conf, .string s_data] : Array Value).toList = true from fit24 s_index s_term s_conf s_data]; rfl) hq61 rfl) rfl rfl rfl ?_
                        refine st_op (ev_assign rfl) rfl rfl rfl ?_
                        try show aw _ _ _ _ _ _
                        refine aw_ret ?_
                        have hx63 : Ext H H50 := (Ext.trans hx48 hx51)
                        have hres : (Spec.mayMsg kind from_ to_ term index logterm commit yes es s_index s_term s_conf s_data) = q60 := by rw [Spec.mayMsg_last (by omega) (by assumption) (fun h => by first | omega | exact Bool.noConfusion (h.symm.trans (show yes = false by assumption)))]; rw [if_neg (by omega)]; exact Spec.snap0_iff (by assumption)
                        exact ⟨.bool q60, rfl, by first | (rw [hres]; done) | rw [← hres], hx63⟩
                      · rw [Bool.not_eq_true] at hc59; refine aw_condF hc59 rfl ?_
                        try show aw _ _ _ _ _ _
                        have hc59 : (kind = 5) := by simpa using hc59
                        exfalso; omega
                  ·
                    have hb56 : (kind = 2) := by simpa using hb56
                    refine st_skip rfl rfl rfl ?_
                    refine st_skip rfl rfl rfl ?_
                    refine st_skip rfl rfl rfl ?_
                    refine st_op (ev_pickF rfl rfl) rfl rfl rfl ?_
                    try show aw _ _ _ _ _ _
                    refine aw_cond (t := false) rfl ?_
                    try show aw _ _ _ _ _ _
                    refine aw_skip ?_
                    try show aw _ _ _ _ _ _
                    refine aw_seq ?_
                    refine aw_seq ?_
                    refine aw_reg ?_
                    refine st_op (ev_fieldAddr rfl fa26_0 (o' := 0) rfl) rfl rfl rfl ?_
                    refine st_op (ev_load rfl (lvar_one one3 h54 rfl)) rfl rfl rfl ?_
                    refine st_op (ev_int rfl rfl rfl) rfl rfl rfl ?_
                    try show aw _ _ _ _ _ _
                    by_cases hc64 : (kind != 5) = true
                    · refine aw_condT hc64 rfl ?_
                      try show aw _ _ _ _ _ _
                      have hc64 : ¬ (kind = 5) := by simpa using hc64
                      refine aw_seq ?_
                      refine aw_reg ?_
                      refine st_op (ev_fieldAddr rfl fa26_9 (o' := 9) rfl) rfl rfl rfl ?_
                      refine st_op (ev_load rfl (lvar_part (l := [.int .i64 s_index, .int .i64 s_term, .string s_conf, .string s_data]) many24 h54 rfl rfl (by decide))) rfl rfl rfl ?_
                      refine st_op (ev_build zero24 pl24 (parts := []) rfl (cs := [.int .i64 0, .int .i64 0, .string (⟨#[]⟩), .string (⟨#[]⟩)]) rfl) rfl rfl rfl ?_
                      obtain ⟨q65, hq66, hi67⟩ : ∃ q, bin.eqCells [.int .i64 s_index, .int .i64 s_term, .string s_conf, .string s_data] [.int .i64 0, .int .i64 0, .string (⟨#[]⟩), .string (⟨#[]⟩)] = some q ∧ (q = true ↔ s_index = 0 ∧ s_term = 0 ∧ s_conf = (⟨#[]⟩ : ByteArray) ∧ s_data = (⟨#[]⟩ : ByteArray)) := ⟨_, rfl, by simp [Bool.and_eq_true, ba_beq]⟩
                      refine st_op (ev_agg rfl rfl (by rw [eqt24, show fitAgg Try.prog 24 (#[.int .i64 s_index, .int .i64 s_term, .string s_conf, .string s_data] : Array Value).toList = true from fit24 s_index s_term s_conf s_data]; rfl) hq66 rfl) rfl rfl rfl ?_
                      refine st_op (ev_assign rfl) rfl rfl rfl ?_
                      try show aw _ _ _ _ _ _
                      refine aw_ret ?_
                      have hx68 : Ext H H50 := (Ext.trans hx48 hx51)
                      have hres : (Spec.mayMsg kind from_ to_ term index logterm commit yes es s_index s_term s_conf s_data) = q65 := by rw [Spec.mayMsg_last (by omega) (by assumption) (fun h => by first | omega | exact Bool.noConfusion (h.symm.trans (show yes = false by assumption)))]; rw [if_neg (by omega)]; exact Spec.snap0_iff (by assumption)
                      exact ⟨.bool q65, rfl, by first | (rw [hres]; done) | rw [← hres], hx68⟩
                    · rw [Bool.not_eq_true] at hc64; refine aw_condF hc64 rfl ?_
                      try show aw _ _ _ _ _ _
                      have hc64 : (kind = 5) := by simpa using hc64
                      exfalso; omega
                ·
                  refine st_skip rfl rfl rfl ?_
                  refine st_skip rfl rfl rfl ?_
                  refine st_skip rfl rfl rfl ?_
                  refine st_op (ev_pickF rfl rfl) rfl rfl rfl ?_
                  refine st_op (ev_move rfl) rfl rfl rfl ?_
                  refine st_skip rfl rfl rfl ?_
                  refine st_skip rfl rfl rfl ?_
                  refine st_skip rfl rfl rfl ?_
                  refine st_op (ev_pickF rfl rfl) rfl rfl rfl ?_
                  try show aw _ _ _ _ _ _
                  refine aw_cond (t := false) rfl ?_
                  try show aw _ _ _ _ _ _
                  refine aw_skip ?_
                  try show aw _ _ _ _ _ _
                  refine aw_seq ?_
                  refine aw_seq ?_
                  refine aw_reg ?_
                  refine st_op (ev_fieldAddr rfl fa26_0 (o' := 0) rfl) rfl rfl rfl ?_
                  refine st_op (ev_load rfl (lvar_one one3 h54 rfl)) rfl rfl rfl ?_
                  refine st_op (ev_int rfl rfl rfl) rfl rfl rfl ?_
                  try show aw _ _ _ _ _ _
                  by_cases hc69 : (kind != 5) = true
                  · refine aw_condT hc69 rfl ?_
                    try show aw _ _ _ _ _ _
                    have hc69 : ¬ (kind = 5) := by simpa using hc69
                    refine aw_seq ?_
                    refine aw_reg ?_
                    refine st_op (ev_fieldAddr rfl fa26_9 (o' := 9) rfl) rfl rfl rfl ?_
                    refine st_op (ev_load rfl (lvar_part (l := [.int .i64 s_index, .int .i64 s_term, .string s_conf, .string s_data]) many24 h54 rfl rfl (by decide))) rfl rfl rfl ?_
                    refine st_op (ev_build zero24 pl24 (parts := []) rfl (cs := [.int .i64 0, .int .i64 0, .string (⟨#[]⟩), .string (⟨#[]⟩)]) rfl) rfl rfl rfl ?_
                    obtain ⟨q70, hq71, hi72⟩ : ∃ q, bin.eqCells [.int .i64 s_index, .int .i64 s_term, .string s_conf, .string s_data] [.int .i64 0, .int .i64 0, .string (⟨#[]⟩), .string (⟨#[]⟩)] = some q ∧ (q = true ↔ s_index = 0 ∧ s_term = 0 ∧ s_conf = (⟨#[]⟩ : ByteArray) ∧ s_data = (⟨#[]⟩ : ByteArray)) := ⟨_, rfl, by simp [Bool.and_eq_true, ba_beq]⟩
                    refine st_op (ev_agg rfl rfl (by rw [eqt24, show fitAgg Try.prog 24 (#[.int .i64 s_index, .int .i64 s_term, .string s_conf, .string s_data] : Array Value).toList = true from fit24 s_index s_term s_conf s_data]; rfl) hq71 rfl) rfl rfl rfl ?_
                    refine st_op (ev_assign rfl) rfl rfl rfl ?_
                    try show aw _ _ _ _ _ _
                    refine aw_ret ?_
                    have hx73 : Ext H H50 := (Ext.trans hx48 hx51)
                    have hres : (Spec.mayMsg kind from_ to_ term index logterm commit yes es s_index s_term s_conf s_data) = q70 := by rw [Spec.mayMsg_last (by omega) (by assumption) (fun h => by first | omega | exact Bool.noConfusion (h.symm.trans (show yes = false by assumption)))]; rw [if_neg (by omega)]; exact Spec.snap0_iff (by assumption)
                    exact ⟨.bool q70, rfl, by first | (rw [hres]; done) | rw [← hres], hx73⟩
                  · rw [Bool.not_eq_true] at hc69; refine aw_condF hc69 rfl ?_
                    try show aw _ _ _ _ _ _
                    have hc69 : (kind = 5) := by simpa using hc69
                    refine aw_skip ?_
                    try show aw _ _ _ _ _ _
                    refine aw_seq ?_
                    refine aw_reg ?_
                    refine st_op (ev_fieldAddr rfl fa26_9 (o' := 9) rfl) rfl rfl rfl ?_
                    refine st_op (ev_fieldAddr rfl fa24_2 (o' := 11) rfl) rfl rfl rfl ?_
                    refine st_op (ev_load rfl (lvar_one one9 h54 rfl)) rfl rfl rfl ?_
                    refine st_call rfl rfl rfl ent43 rfl rfl rfl ?_
                    obtain ⟨_, H75, hs74, A77, c78, hs74v, hm79, hx76⟩ := conf_Decode_spec H50 s_conf (by omega)
                    rw [hs74v] at hs74; clear hs74v
                    refine ⟨_, H75, hs74, ?_⟩
                    have H75n : H50.next ≤ H75.next := hx76.1
                    refine st_op (ev_move rfl) rfl rfl rfl ?_
                    refine st_op (ev_extract rfl rfl) rfl rfl rfl ?_
                    refine st_op (ev_extract rfl rfl) rfl rfl rfl ?_
                    refine st_op (ev_assign rfl) rfl rfl rfl ?_
                    refine st_op (ev_assign rfl) rfl rfl rfl ?_
                    try show aw _ _ _ _ _ _
                    refine aw_seq ?_
                    refine aw_reg ?_
                    refine st_op (ev_move rfl) rfl rfl rfl ?_
                    refine st_op (ev_move rfl) rfl rfl rfl ?_
                    refine st_bool 75 rfl (fun hb80 => ?_) (fun hb80 => ?_)
                    ·
                      refine st_op (ev_fieldAddr rfl fa26_9 (o' := 9) rfl) rfl rfl rfl ?_
                      have h81 := Ext.blk hx76 (by omega) h54
                      refine st_op (ev_load rfl (lvar_part (l := [.int .i64 s_index, .int .i64 s_term, .string s_conf, .string s_data]) many24 h81 rfl rfl (by decide))) rfl rfl rfl ?_
                      refine st_call rfl rfl rfl ent44 rfl rfl rfl ?_
                      obtain ⟨_, H83, hs82, A85, c86, hs82v, hm87, hq88, hq89, hq90, hx84⟩ := wal_PutSnap_spec H75 s_index s_term s_conf s_data
                      rw [hs82v] at hs82; clear hs82v
                      refine ⟨_, H83, hs82, ?_⟩
                      have H83n : H75.next ≤ H83.next := hx84.1
                      refine st_op (ev_nilSlNe rfl rfl Try.underlying29) rfl rfl rfl ?_
                      refine st_op (ev_pickT rfl rfl) rfl rfl rfl ?_
                      refine st_op (ev_assign rfl) rfl rfl rfl ?_
                      try show aw _ _ _ _ _ _
                      refine aw_ret ?_
                      have hx91 : Ext H H83 := (Ext.trans (Ext.trans (Ext.trans hx48 hx51) hx76) hx84)
                      have hres : (Spec.mayMsg kind from_ to_ term index logterm commit yes es s_index s_term s_conf s_data) = (!(Option.isNone A85)) := by rw [Spec.mayMsg_last (by omega) (by assumption) (fun h => by first | omega | exact Bool.noConfusion (h.symm.trans (show yes = false by assumption)))]; rw [if_pos (by omega), show (Spec.decC s_conf).2 = true by assumption, Bool.true_and]; exact (Spec.nil_iff (by assumption)).symm
                      exact ⟨.bool (!(Option.isNone A85)), rfl, by first | (rw [hres]; done) | rw [← hres], hx91⟩
                    ·
                      refine st_skip rfl rfl rfl ?_
                      refine st_skip rfl rfl rfl ?_
                      refine st_skip rfl rfl rfl ?_
                      refine st_skip rfl rfl rfl ?_
                      refine st_op (ev_pickF rfl rfl) rfl rfl rfl ?_
                      refine st_op (ev_assign rfl) rfl rfl rfl ?_
                      try show aw _ _ _ _ _ _
                      refine aw_ret ?_
                      have hx92 : Ext H H75 := (Ext.trans (Ext.trans hx48 hx51) hx76)
                      have hres : (Spec.mayMsg kind from_ to_ term index logterm commit yes es s_index s_term s_conf s_data) = false := by first | exact Spec.mayMsg_f1 (by omega) | exact Spec.mayMsg_f2 (by assumption) | exact Spec.mayMsg_f3 (by assumption) (by omega) (by omega) | (rw [Spec.mayMsg_last (by omega) (by assumption) (fun h => by first | omega | exact Bool.noConfusion (h.symm.trans (show yes = false by assumption)))]; rw [if_pos (by omega), show (Spec.decC s_conf).2 = false by assumption]; rfl)
                      exact ⟨.bool false, rfl, by first | (rw [hres]; done) | rw [← hres], hx92⟩
theorem sl_CloneE_spec (H : Heap) (lA : Option Addr) (l : List Entry) (lc : Nat) (hl : Row H lA lc 4 (l.map Entry.cells)) (cl : l.length ≤ lc) (ll : l.length ≤ 1073741824) : ∃ v H', Spec Try.prog 56 [.slice lA l.length lc] H v H' ∧ (∃ rA0 rc0, (v = .slice rA0 l.length rc0) ∧ (My H H' rA0 rc0 4 (l.map Entry.cells)) ∧ (Ext H H')) := by
  refine spec_go1 E0_ok 8 (f := 56) Try.func56 rfl rfl rfl ?_
  refine aw_seq ?_
  refine aw_reg ?_
  refine st_op (ev_assign rfl) rfl rfl rfl ?_
  try show aw _ _ _ _ _ _
  refine aw_seq ?_
  refine aw_seq ?_
  refine aw_reg ?_
  refine st_op (ev_move rfl) rfl rfl rfl ?_
  refine st_op (ev_nilSl rfl rfl Try.underlying22) rfl rfl rfl ?_
  try show aw _ _ _ _ _ _
  by_cases hc1 : (Option.isNone lA) = true
  · refine aw_condT hc1 rfl ?_
    try show aw _ _ _ _ _ _
    refine aw_seq ?_
    refine aw_reg ?_
    refine st_op (ev_assign rfl) rfl rfl rfl ?_
    try show aw _ _ _ _ _ _
    refine aw_ret ?_
    have hm2 : My H H none 0 4 (([] : List Entry).map Entry.cells) := .nil
    have hres : l = ([] : List Entry) := by exact Row.isNone hl (by assumption)
    exact ⟨.slice none 0 0, rfl, none, 0, by first | (rw [hres]; first | done | rfl | simp; done) | rfl, (by rw [hres]; exact hm2), (Ext.refl H)⟩
  · rw [Bool.not_eq_true] at hc1; refine aw_condF hc1 rfl ?_
    try show aw _ _ _ _ _ _
    refine aw_skip ?_
    try show aw _ _ _ _ _ _
    refine aw_seq ?_
    refine aw_reg ?_
    obtain ⟨b3, H4, he5, b3e, H4n_, hm7, f6⟩ := mem_lit H (xs := ([] : List Value)) (m := 0) (rows := ([] : List (List Value))) rfl eok22 (by decide) (by decide) zf45 rfl (allLen rfl) rfl
    replace hm7 : My H H4 (some ⟨b3, 0, none⟩) 0 4 (([] : List Entry).map Entry.cells) := hm7
    refine st_op (he5 _ _ _ _ _ _ _ _ rfl) rfl rfl rfl ?_
    have hx8 : Ext H H4 := Ext.new (by omega) H4n_ f6
    have H4n : H.next ≤ H4.next := hx8.1
    refine st_op (ev_move rfl) rfl rfl rfl ?_
    have h9 := Row.ext hl hx8
    obtain ⟨A10, c11, H12, W13, he14, hm15, hf16⟩ := mem_append (f := Entry.cells) (old := ([] : List Entry)) (new := l) (m := 0) (mx := l.length) (c := 0) (by first | rfl | simp) (by first | rfl | simp) eok22 (by decide) hm7 hm7 (by omega) ((h9).srcF (by decide) (by first | rfl | simp)) rfl Entry.cells_len Entry.cells_one (by first | omega | (simp only [List.length_append, List.length_cons, List.length_nil, List.length_map, List.length_set, List.length_replicate, Spec.bytesOf_length]; omega) | (simp; omega)) (by first | omega | (simp only [List.length_append, List.length_cons, List.length_nil, List.length_map, List.length_set, List.length_replicate, Spec.bytesOf_length]; omega) | (simp; omega))
    refine st_op (he14 _ _ _ _ _ _ _ _ _ _ rfl rfl isrow22) rfl rfl rfl ?_
    have H12n : H4.next ≤ H12.next := hf16.1
    rw [List.nil_append] at hm15
    refine st_op (ev_assign rfl) rfl rfl rfl ?_
    try show aw _ _ _ _ _ _
    refine aw_ret ?_
    have hx17 : Ext H H12 := (Ext.then hx8 hf16 (fun q hq e => by omega))
    have hres : l = l := by rfl
    exact ⟨.slice A10 l.length c11, rfl, A10, c11, by first | (rw [hres]; first | done | rfl | simp; done) | rfl, (by rw [hres]; exact hm15), hx17⟩
theorem net_own_spec (H : Heap) (kind : Int) (from_ : Int) (to_ : Int) (term : Int) (index : Int) (logterm : Int) (commit : Int) (yes : Bool) (esA : Option Addr) (es : List Entry) (esc : Nat) (hes : Row H esA esc 4 (es.map Entry.cells)) (ces : es.length ≤ esc) (les : es.length ≤ 1073741824) (s_index : Int) (s_term : Int) (s_conf : ByteArray) (s_data : ByteArray) : ∃ v H', Spec Try.prog 37 [.agg #[.int .i64 kind, .int .i64 from_, .int .i64 to_, .int .i64 term, .int .i64 index, .int .i64 logterm, .int .i64 commit, .bool yes, .slice esA es.length esc, .int .i64 s_index, .int .i64 s_term, .string s_conf, .string s_data]] H v H' ∧ (∃ rA8 rc8, (v = .agg #[.int .i64 kind, .int .i64 from_, .int .i64 to_, .int .i64 term, .int .i64 index, .int .i64 logterm, .int .i64 commit, .bool yes, .slice rA8 es.length rc8, .int .i64 s_index, .int .i64 s_term, .string s_conf, .string s_data]) ∧ (My H H' rA8 rc8 4 (es.map Entry.cells)) ∧ (Ext H H')) := by
  refine spec_go1 E0_ok 8 (f := 37) Try.func37 rfl rfl rfl ?_
  refine aw_seq ?_
  refine aw_reg ?_
  obtain ⟨b1, H2, he3, b1e, H2n_, hB5, f4⟩ := mem_box (P := Try.prog) H (v := .agg #[.int .i64 kind, .int .i64 from_, .int .i64 to_, .int .i64 term, .int .i64 index, .int .i64 logterm, .int .i64 commit, .bool yes, .slice esA es.length esc, .int .i64 s_index, .int .i64 s_term, .string s_conf, .string s_data]) (cs := [.int .i64 kind, .int .i64 from_, .int .i64 to_, .int .i64 term, .int .i64 index, .int .i64 logterm, .int .i64 commit, .bool yes, .slice esA es.length esc, .int .i64 s_index, .int .i64 s_term, .string s_conf, .string s_data]) rfl rfl
  refine st_op (he3 _ _ _ _ _ _ _ _ _ rfl) rfl rfl rfl ?_
  have hx6 : Ext H H2 := Ext.new (by omega) H2n_ f4
  have H2n : H.next ≤ H2.next := hx6.1
  obtain ⟨b7, H8, he9, b7e, H8n_, hB11, f10⟩ := mem_alloc H2 zero26
  refine st_op (he9 _ _ _ _ _ _ _) rfl rfl rfl ?_
  have hx12 : Ext H2 H8 := Ext.new (by omega) H8n_ f10
  have H8n : H2.next ≤ H8.next := hx12.1
  try show aw _ _ _ _ _ _
  refine aw_seq ?_
  refine aw_reg ?_
  refine st_op (ev_fieldAddr rfl fa26_8 (o' := 8) rfl) rfl rfl rfl ?_
  have h13 := Ext.blk hx12 (by omega) hB5
  refine st_op (ev_load rfl (lvar_one one22 h13 rfl)) rfl rfl rfl ?_
  refine st_call rfl rfl rfl ent56 rfl rfl rfl ?_
  have hx15 : Ext H H8 := (Ext.trans hx6 hx12)
  have h14 := Row.ext hes hx15
  obtain ⟨_, H17, hs16, A19, c20, hs16v, hm21, hx18⟩ := sl_CloneE_spec H8 esA es esc h14 ces (by first | omega | (simp only [List.length_append, List.length_cons, List.length_nil, List.length_map, List.length_set, List.length_replicate, Spec.bytesOf_length]; omega) | (simp; omega))
  rw [hs16v] at hs16; clear hs16v
  refine ⟨_, H17, hs16, ?_⟩
  have H17n : H8.next ≤ H17.next := hx18.1
  refine st_op (ev_fieldAddr rfl fa26_8 (o' := 8) rfl) rfl rfl rfl ?_
  have h22 := Ext.blk hx18 (by omega) h13
  obtain ⟨H23, he24, H23n_, hB25, f26⟩ := mem_store (v := .slice A19 es.length c20) (o := 8) (cs' := [.int .i64 kind, .int .i64 from_, .int .i64 to_, .int .i64 term, .int .i64 index, .int .i64 logterm, .int .i64 commit, .bool yes, .slice A19 es.length c20, .int .i64 s_index, .int .i64 s_term, .string s_conf, .string s_data]) 1 rfl rfl size22 h22 rfl rfl rfl
  refine st_op0 (he24 _ _ _ _ _ _ _ _ _ rfl rfl) rfl rfl ?_
  have hf27 : Fr (fun q => q = b1) H17 H23 := Fr.write H23n_ f26
  have H23n : H17.next ≤ H23.next := hf27.1
  try show aw _ _ _ _ _ _
  refine aw_seq ?_
  refine aw_reg ?_
  refine st_op (ev_load rfl (lvar_part (l := [.int .i64 kind, .int .i64 from_, .int .i64 to_, .int .i64 term, .int .i64 index, .int .i64 logterm, .int .i64 commit, .bool yes, .slice A19 es.length c20, .int .i64 s_index, .int .i64 s_term, .string s_conf, .string s_data]) many26 hB25 rfl rfl (by decide))) rfl rfl rfl ?_
  have h28 := Ext.blk hx18 (by omega) hB11
  have h29 := Fr.blk hf27 (by omega) (fun e => (by omega)) h28
  obtain ⟨H30, he31, H30n_, hB32, f33⟩ := mem_store (v := .agg #[.int .i64 kind, .int .i64 from_, .int .i64 to_, .int .i64 term, .int .i64 index, .int .i64 logterm, .int .i64 commit, .bool yes, .slice A19 es.length c20, .int .i64 s_index, .int .i64 s_term, .string s_conf, .string s_data]) (o := 0) (cs' := [.int .i64 kind, .int .i64 from_, .int .i64 to_, .int .i64 term, .int .i64 index, .int .i64 logterm, .int .i64 commit, .bool yes, .slice A19 es.length c20, .int .i64 s_index, .int .i64 s_term, .string s_conf, .string s_data]) 13 rfl rfl size26 h29 rfl rfl rfl
  refine st_op0 (he31 _ _ _ _ _ _ _ _ _ rfl rfl) rfl rfl ?_
  have hf34 : Fr (fun q => q = b7) H23 H30 := Fr.write H30n_ f33
  have H30n : H23.next ≤ H30.next := hf34.1
  try show aw _ _ _ _ _ _
  refine aw_ret ?_
  have h35 := My.frS hm21 hf27 (fun q hq e => ⟨_, e ▸ h22, show (0 : Nat) ≠ 4 by decide⟩)
  have h36 := My.frS h35 hf34 (fun q hq e => ⟨_, e ▸ h29, show (0 : Nat) ≠ 4 by decide⟩)
  have hx37 : Ext H H30 := (Ext.then (Ext.then (Ext.trans hx15 hx18) hf27 (fun q hq e => by omega)) hf34 (fun q hq e => by omega))
  have hres : es = es := by rfl
  exact ⟨.agg #[.int .i64 kind, .int .i64 from_, .int .i64 to_, .int .i64 term, .int .i64 index, .int .i64 logterm, .int .i64 commit, .bool yes, .slice A19 es.length c20, .int .i64 s_index, .int .i64 s_term, .string s_conf, .string s_data], (resA_of (resL_cell rfl (lvar_part (l := [.int .i64 kind, .int .i64 from_, .int .i64 to_, .int .i64 term, .int .i64 index, .int .i64 logterm, .int .i64 commit, .bool yes, .slice A19 es.length c20, .int .i64 s_index, .int .i64 s_term, .string s_conf, .string s_data]) many26 hB32 rfl rfl (by decide)) resL_nil) rfl), A19, c20, by first | (rw [hres]; first | done | rfl | simp; done) | rfl, (by rw [hres]; exact (My.older h36 (by omega))), hx37⟩
theorem net_Send_spec (H : Heap) (lH : Heap) (lA : Option Addr) (l : List MsgC) (lc : Nat) (hl : My lH H lA lc 13 (l.map MsgC.cells)) (nl : lH.next ≤ H.next) (ll : l.length ≤ 400) (bl : Spec.Short l) (lE : Heap) (el : Each MsgC.sub lE H l) (nel : lE.next ≤ H.next) (n : Nat) (hn : n < H.next) (Bn : H.blk n = some ⟨[.slice lA l.length lc], 0, false, false⟩) (kind : Int) (from_ : Int) (to_ : Int) (term : Int) (index : Int) (logterm : Int) (commit : Int) (yes : Bool) (esA : Option Addr) (es : List Entry) (esc : Nat) (hes : Row H esA esc 4 (es.map Entry.cells)) (ces : es.length ≤ esc) (les : es.length ≤ 1048576) (s_index : Int) (s_term : Int) (s_conf : ByteArray) (hs_conf : s_conf.size ≤ 1073741824) (s_data : ByteArray) (hs_data : s_data.size ≤ 1073741824) : ∃ v H', Spec Try.prog 17 [.pointer (some ⟨n, 0, none⟩), .agg #[.int .i64 kind, .int .i64 from_, .int .i64 to_, .int .i64 term, .int .i64 index, .int .i64 logterm, .int .i64 commit, .bool yes, .slice esA es.length esc, .int .i64 s_index, .int .i64 s_term, .string s_conf, .string s_data]] H v H' ∧ (∃ rA1 rc1, ∃ rl1 : List MsgC, (v = .bool ((Spec.sendF (l.map MsgC.val) (⟨kind, from_, to_, term, index, logterm, commit, yes, es, ⟨s_index, s_term, s_conf, s_data⟩⟩ : Msg)).1)) ∧ (rl1.map MsgC.val = ((Spec.sendF (l.map MsgC.val) (⟨kind, from_, to_, term, index, logterm, commit, yes, es, ⟨s_index, s_term, s_conf, s_data⟩⟩ : Msg)).2)) ∧ (My lH H' rA1 rc1 13 (rl1.map MsgC.cells)) ∧ (Each MsgC.sub lE H' rl1) ∧ (H'.blk n = some ⟨[.slice rA1 rl1.length rc1], 0, false, false⟩) ∧ (Spec.Short rl1) ∧ ((Spec.sendF (l.map MsgC.val) (⟨kind, from_, to_, term, index, logterm, commit, yes, es, ⟨s_index, s_term, s_conf, s_data⟩⟩ : Msg)).2.length ≤ 400) ∧ (Fr (fun q => q = n ∨ (lH.next ≤ q ∧ q < H.next ∧ ZB H q 13)) H H')) := by
  refine spec_go2 E0_ok 31 (f := 17) Try.func17 rfl rfl rfl ?_
  refine aw_seq ?_
  refine aw_reg ?_
  obtain ⟨b1, H2, he3, b1e, H2n_, hB5, f4⟩ := mem_box (P := Try.prog) H (v := .agg #[.int .i64 kind, .int .i64 from_, .int .i64 to_, .int .i64 term, .int .i64 index, .int .i64 logterm, .int .i64 commit, .bool yes, .slice esA es.length esc, .int .i64 s_index, .int .i64 s_term, .string s_conf, .string s_data]) (cs := [.int .i64 kind, .int .i64 from_, .int .i64 to_, .int .i64 term, .int .i64 index, .int .i64 logterm, .int .i64 commit, .bool yes, .slice esA es.length esc, .int .i64 s_index, .int .i64 s_term, .string s_conf, .string s_data]) rfl rfl
  refine st_op (he3 _ _ _ _ _ _ _ _ _ rfl) rfl rfl rfl ?_
  have hx6 : Ext H H2 := Ext.new (by omega) H2n_ f4
  have H2n : H.next ≤ H2.next := hx6.1
  refine st_op (ev_assign rfl) rfl rfl rfl ?_
  try show aw _ _ _ _ _ _
  refine aw_seq ?_
  refine aw_seq ?_
  refine aw_reg ?_
  refine st_op (ev_move rfl) rfl rfl rfl ?_
  refine st_op (ev_nilEq rfl rfl Try.underlying40) rfl rfl rfl ?_
  refine st_op (ev_move rfl) rfl rfl rfl ?_
  refine st_op (ev_load rfl (lvar_part (l := [.int .i64 kind, .int .i64 from_, .int .i64 to_, .int .i64 term, .int .i64 index, .int .i64 logterm, .int .i64 commit, .bool yes, .slice esA es.length esc, .int .i64 s_index, .int .i64 s_term, .string s_conf, .string s_data]) many26 hB5 rfl rfl (by decide))) rfl rfl rfl ?_
  refine st_call rfl rfl rfl ent23 rfl rfl rfl ?_
  have h7 := Row.ext hes hx6
  obtain ⟨_, H9, hs8, hs8v, hx10⟩ := raft_May_spec H2 kind from_ to_ term index logterm commit yes esA es esc h7 ces (by first | omega | (simp only [List.length_append, List.length_cons, List.length_nil, List.length_map, List.length_set, List.length_replicate, Spec.bytesOf_length]; omega) | (simp; omega)) s_index s_term s_conf (by first | omega | (simp only [List.length_append, List.length_cons, List.length_nil, List.length_map, List.length_set, List.length_replicate, Spec.bytesOf_length]; omega) | (simp; omega)) s_data (by first | omega | (simp only [List.length_append, List.length_cons, List.length_nil, List.length_map, List.length_set, List.length_replicate, Spec.bytesOf_length]; omega) | (simp; omega))
  rw [hs8v] at hs8; clear hs8v
  refine ⟨_, H9, hs8, ?_⟩
  have H9n : H2.next ≤ H9.next := hx10.1
  refine st_op (ev_not rfl) rfl rfl rfl ?_
  refine st_op (ev_pickF rfl rfl) rfl rfl rfl ?_
  refine st_op (ev_move rfl) rfl rfl rfl ?_
  refine st_bool 12 rfl (fun hb11 => ?_) (fun hb11 => ?_)
  ·
    replace hb11 : (Spec.mayMsg kind from_ to_ term index logterm commit yes es s_index s_term s_conf s_data) = false := by rw [Bool.not_eq_true'] at hb11; exact hb11
    refine st_skip rfl rfl rfl ?_
    refine st_skip rfl rfl rfl ?_
    refine st_skip rfl rfl rfl ?_
    refine st_skip rfl rfl rfl ?_
    refine st_skip rfl rfl rfl ?_
    refine st_skip rfl rfl rfl ?_
    refine st_op (ev_pickT rfl rfl) rfl rfl rfl ?_
    try show aw _ _ _ _ _ _
    refine aw_cond (t := true) rfl ?_
    try show aw _ _ _ _ _ _
    refine aw_seq ?_
    refine aw_reg ?_
    refine st_op (ev_assign rfl) rfl rfl rfl ?_
    try show aw _ _ _ _ _ _
    refine aw_ret ?_
    have hx13 : Ext H H9 := (Ext.trans hx6 hx10)
    have h12 := My.ext hl hx13
    have h14 := Each.ext el hx13
    have h15 := Ext.blk hx13 (by omega) Bn
    have hres : (Spec.sendF (l.map MsgC.val) (⟨kind, from_, to_, term, index, logterm, commit, yes, es, ⟨s_index, s_term, s_conf, s_data⟩⟩ : Msg)) = (false, (l.map MsgC.val)) := by first | rw [Spec.sendF, if_neg (fun h => Bool.noConfusion (h.1.symm.trans (show _ = false by assumption)))] | rw [Spec.sendF, if_neg (fun h => by have := h.2; rw [List.length_map] at this; omega)] | (rw [Spec.sendF, if_pos ⟨by assumption, by rw [List.length_map]; omega⟩, List.map_append]; rfl)
    exact ⟨.bool false, rfl, lA, lc, l, by first | (rw [hres]; first | done | rfl | simp; done) | rfl, (by (rw [hres]) <;> rfl), (by first | exact h12 | (rw [hres]; exact h12)), (by first | exact h14 | (rw [hres]; exact h14)), (by first | exact h15 | (rw [hres]; exact h15)), (by first | exact bl | exact Spec.short_snoc bl (Spec.may_es (by assumption))), (by exact Spec.send_le (by rw [List.length_map]; omega)), (Fr.trans (Fr.trans (Fr.refl (fun q => q = n ∨ (lH.next ≤ q ∧ q < H.next ∧ ZB H q 13)) H) (hx6.fr fun _ => False) (fun q hq (e : False) => e.elim)) (hx10.fr fun _ => False) (fun q hq (e : False) => e.elim))⟩
  ·
    replace hb11 : (Spec.mayMsg kind from_ to_ term index logterm commit yes es s_index s_term s_conf s_data) = true := by rw [Bool.not_eq_false'] at hb11; exact hb11
    refine st_op (ev_move rfl) rfl rfl rfl ?_
    refine st_op (ev_nilCheck rfl) rfl rfl rfl ?_
    refine st_op (ev_fieldAddr rfl fa73_0 (o' := 0) rfl) rfl rfl rfl ?_
    have hx17 : Ext H H9 := (Ext.trans hx6 hx10)
    have h16 := Ext.blk hx17 (by omega) Bn
    refine st_op (ev_load rfl (lvar_one one71 h16 rfl)) rfl rfl rfl ?_
    refine st_op (ev_lenSl rfl Try.underlying71) rfl rfl rfl ?_
    refine st_op (ev_int rfl rfl rfl) rfl rfl rfl ?_
    refine st_op (ev_pickF rfl rfl) rfl rfl rfl ?_
    try show aw _ _ _ _ _ _
    by_cases hc18 : (decide ((l.length : Int) ≥ 400)) = true
    · refine aw_condT hc18 rfl ?_
      try show aw _ _ _ _ _ _
      have hc18 := of_decide_eq_true hc18
      refine aw_seq ?_
      refine aw_reg ?_
      refine st_op (ev_assign rfl) rfl rfl rfl ?_
      try show aw _ _ _ _ _ _
      refine aw_ret ?_
      have h19 := My.ext hl hx17
      have h20 := Each.ext el hx17
      have hres : (Spec.sendF (l.map MsgC.val) (⟨kind, from_, to_, term, index, logterm, commit, yes, es, ⟨s_index, s_term, s_conf, s_data⟩⟩ : Msg)) = (false, (l.map MsgC.val)) := by first | rw [Spec.sendF, if_neg (fun h => Bool.noConfusion (h.1.symm.trans (show _ = false by assumption)))] | rw [Spec.sendF, if_neg (fun h => by have := h.2; rw [List.length_map] at this; omega)] | (rw [Spec.sendF, if_pos ⟨by assumption, by rw [List.length_map]; omega⟩, List.map_append]; rfl)
      exact ⟨.bool false, rfl, lA, lc, l, by first | (rw [hres]; first | done | rfl | simp; done) | rfl, (by (rw [hres]) <;> rfl), (by first | exact h19 | (rw [hres]; exact h19)), (by first | exact h20 | (rw [hres]; exact h20)), (by first | exact h16 | (rw [hres]; exact h16)), (by first | exact bl | exact Spec.short_snoc bl (Spec.may_es (by assumption))), (by exact Spec.send_le (by rw [List.length_map]; omega)), (Fr.trans (Fr.trans (Fr.refl (fun q => q = n ∨ (lH.next ≤ q ∧ q < H.next ∧ ZB H q 13)) H) (hx6.fr fun _ => False) (fun q hq (e : False) => e.elim)) (hx10.fr fun _ => False) (fun q hq (e : False) => e.elim))⟩
    · rw [Bool.not_eq_true] at hc18; refine aw_condF hc18 rfl ?_
      try show aw _ _ _ _ _ _
      have hc18 := of_decide_eq_false hc18
      refine aw_skip ?_
      try show aw _ _ _ _ _ _
      refine aw_seq ?_
      refine aw_marks (fun b => b < H9.next) [(false, false), (false, false), (false, false), (false, false), (true, false), (false, false), (false, true), (false, true), (false, false), (false, false), (false, false), (false, false)] mixed (by kernel_rfl) (by kernel_rfl) ?_
      refine sm_op (ev_move rfl) rfl rfl rfl ?_
      refine sm_op (ev_move rfl) rfl rfl rfl ?_
      refine sm_op (ev_nilCheck rfl) rfl rfl rfl ?_
      refine sm_op (ev_fieldAddr rfl fa73_0 (o' := 0) rfl) rfl rfl rfl ?_
      refine sm_read (ev_load rfl (lvar_one one71 h16 rfl)) rfl rfl rfl (fun b hb => by cases hb; dsimp only; omega) ?_
      have h21 := Ext.blk hx10 (by omega) hB5
      refine sm_op (ev_load rfl (lvar_part (l := [.int .i64 kind, .int .i64 from_, .int .i64 to_, .int .i64 term, .int .i64 index, .int .i64 logterm, .int .i64 commit, .bool yes, .slice esA es.length esc, .int .i64 s_index, .int .i64 s_term, .string s_conf, .string s_data]) many26 h21 rfl rfl (by decide))) rfl rfl rfl ?_
      refine sm_call rfl rfl rfl ent37 rfl rfl rfl ?_
      have h22 := Row.ext h7 hx10
      obtain ⟨_, H24, hs23, A26, c27, hs23v, hm28, hx25⟩ := net_own_spec H9 kind from_ to_ term index logterm commit yes esA es esc h22 ces (by first | omega | (simp only [List.length_append, List.length_cons, List.length_nil, List.length_map, List.length_set, List.length_replicate, Spec.bytesOf_length]; omega) | (simp; omega)) s_index s_term s_conf s_data
      rw [hs23v] at hs23; clear hs23v
      refine ⟨_, H24, hs23, (fun _ b hb => hx25.2 b (by omega)), ?_⟩
      have H24n : H9.next ≤ H24.next := hx25.1
      obtain ⟨b29, H30, he31, b29e, H30n_, hm33, f32⟩ := mem_lit H24 (xs := ([.agg #[.int .i64 kind, .int .i64 from_, .int .i64 to_, .int .i64 term, .int .i64 index, .int .i64 logterm, .int .i64 commit, .bool yes, .slice A26 es.length c27, .int .i64 s_index, .int .i64 s_term, .string s_conf, .string s_data]] : List Value)) (m := 1) (rows := [[.int .i64 kind, .int .i64 from_, .int .i64 to_, .int .i64 term, .int .i64 index, .int .i64 logterm, .int .i64 commit, .bool yes, .slice A26 es.length c27, .int .i64 s_index, .int .i64 s_term, .string s_conf, .string s_data]]) rfl eok71 (by decide) (by decide) zf26 rfl (allLen rfl) rfl
      replace hm33 : My H24 H30 (some ⟨b29, 0, none⟩) 1 13 ([(⟨kind, from_, to_, term, index, logterm, commit, yes, es, A26, c27, (⟨s_index, s_term, s_conf, s_data⟩ : Snap)⟩ : MsgC)].map MsgC.cells) := hm33
      refine sm_act (he31 _ _ _ _ _ _ _ _ rfl) rfl rfl rfl (fun q hq => f32 q (by omega)) ?_
      have hx34 : Ext H24 H30 := Ext.new (by omega) H30n_ f32
      have H30n : H24.next ≤ H30.next := hx34.1
      have h36 := My.ext hm28 hx34
      have hE35 : Each MsgC.sub H9 H30 ([(⟨kind, from_, to_, term, index, logterm, commit, yes, es, A26, c27, (⟨s_index, s_term, s_conf, s_data⟩ : Snap)⟩ : MsgC)]) := Each.one h36
      have hx38 : Ext H H30 := (Ext.trans (Ext.trans hx17 hx25) hx34)
      have h37 := My.ext hl hx38
      obtain ⟨A39, c40, H41, W42, he43, hm44, hf45⟩ := mem_append (f := MsgC.cells) (old := l) (new := [(⟨kind, from_, to_, term, index, logterm, commit, yes, es, A26, c27, (⟨s_index, s_term, s_conf, s_data⟩ : Snap)⟩ : MsgC)]) (m := l.length) (mx := 1) (c := lc) (by first | rfl | simp) (by first | rfl | simp) eok71 (by decide) hl h37 (by omega) (((My.row hm33)).srcF (by decide) (by first | rfl | simp)) rfl MsgC.cells_len MsgC.cells_one (by first | omega | (simp only [List.length_append, List.length_cons, List.length_nil, List.length_map, List.length_set, List.length_replicate, Spec.bytesOf_length]; omega) | (simp; omega)) (by first | omega | (simp only [List.length_append, List.length_cons, List.length_nil, List.length_map, List.length_set, List.length_replicate, Spec.bytesOf_length]; omega) | (simp; omega))
      refine sm_op (he43 _ _ _ _ _ _ _ _ _ _ rfl rfl isrow71) rfl rfl rfl ?_
      have H41n : H30.next ≤ H41.next := hf45.1
      have h47 := Each.ext el hx38
      have h48 := Each.frS h47 hf45 (fun q hq e => (ZB.ne e.2.2 (show (13 : Nat) ≠ 4 by decide)))
      have h49 := Each.frS hE35 hf45 (fun q hq e => (ZB.ne e.2.2 (show (13 : Nat) ≠ 4 by decide)))
      have hE46 : Each MsgC.sub lE H41 (l ++ [(⟨kind, from_, to_, term, index, logterm, commit, yes, es, A26, c27, (⟨s_index, s_term, s_conf, s_data⟩ : Snap)⟩ : MsgC)]) := Each.append h48 (Each.older h49 (by omega))
      refine sm_op (ev_nilCheck rfl) rfl rfl rfl ?_
      refine sm_op (ev_fieldAddr rfl fa73_0 (o' := 0) rfl) rfl rfl rfl ?_
      have hx51 : Ext H9 H30 := (Ext.trans hx25 hx34)
      have h50 := Ext.blk hx51 (by omega) h16
      have h52 := Fr.blk hf45 (by omega) (fun e => (zb_ne h50 e.2.2 (show (0 : Nat) ≠ 13 by decide))) h50
      obtain ⟨H53, he54, H53n_, hB55, f56⟩ := mem_store (v := .slice A39 ((l ++ [(⟨kind, from_, to_, term, index, logterm, commit, yes, es, A26, c27, (⟨s_index, s_term, s_conf, s_data⟩ : Snap)⟩ : MsgC)]).length) c40) (o := 0) (cs' := [.slice A39 ((l ++ [(⟨kind, from_, to_, term, index, logterm, commit, yes, es, A26, c27, (⟨s_index, s_term, s_conf, s_data⟩ : Snap)⟩ : MsgC)]).length) c40]) 1 rfl rfl size71 h52 rfl rfl rfl
      refine sm_op0 (he54 _ _ _ _ _ _ _ _ _ rfl rfl) rfl rfl ?_
      have hf57 : Fr (fun q => q = n) H41 H53 := Fr.write H53n_ f56
      have H53n : H41.next ≤ H53.next := hf57.1
      try show aw _ _ _ _ _ _
      refine aw_seq ?_
      refine aw_reg ?_
      refine st_op (ev_assign rfl) rfl rfl rfl ?_
      try show aw _ _ _ _ _ _
      refine aw_ret ?_
      have h58 := My.frS hm44 hf57 (fun q hq e => ⟨_, e ▸ h52, show (0 : Nat) ≠ 13 by decide⟩)
      have h59 := Each.frS hE46 hf57 (fun q hq e => ⟨_, e ▸ h52, show (0 : Nat) ≠ 4 by decide⟩)
      have hres : (Spec.sendF (l.map MsgC.val) (⟨kind, from_, to_, term, index, logterm, commit, yes, es, ⟨s_index, s_term, s_conf, s_data⟩⟩ : Msg)) = (true, ((l ++ [(⟨kind, from_, to_, term, index, logterm, commit, yes, es, A26, c27, (⟨s_index, s_term, s_conf, s_data⟩ : Snap)⟩ : MsgC)]).map MsgC.val)) := by first | rw [Spec.sendF, if_neg (fun h => Bool.noConfusion (h.1.symm.trans (show _ = false by assumption)))] | rw [Spec.sendF, if_neg (fun h => by have := h.2; rw [List.length_map] at this; omega)] | (rw [Spec.sendF, if_pos ⟨by assumption, by rw [List.length_map]; omega⟩, List.map_append]; rfl)
      exact ⟨.bool true, rfl, A39, c40, (l ++ [(⟨kind, from_, to_, term, index, logterm, commit, yes, es, A26, c27, (⟨s_index, s_term, s_conf, s_data⟩ : Snap)⟩ : MsgC)]), by first | (rw [hres]; first | done | rfl | simp; done) | rfl, (by (rw [hres]) <;> rfl), (by first | exact h58 | (rw [hres]; exact h58)), (by first | exact h59 | (rw [hres]; exact h59)), (by first | exact hB55 | (rw [hres]; exact hB55)), (by first | exact bl | exact Spec.short_snoc bl (Spec.may_es (by assumption))), (by exact Spec.send_le (by rw [List.length_map]; omega)), (Fr.transG (Fr.transG (Fr.trans (Fr.trans (Fr.trans (Fr.trans (Fr.refl (fun q => q = n ∨ (lH.next ≤ q ∧ q < H.next ∧ ZB H q 13)) H) (hx6.fr fun _ => False) (fun q hq (e : False) => e.elim)) (hx10.fr fun _ => False) (fun q hq (e : False) => e.elim)) (hx25.fr fun _ => False) (fun q hq (e : False) => e.elim)) (hx34.fr fun _ => False) (fun q hq (e : False) => e.elim)) hf45 (fun q hq hE e => Or.inr ((⟨by omega, by omega, ZB.back hE e.2.2⟩)))) hf57 (fun q hq hE e => Or.inl (e)))⟩
theorem net_Len_spec (H : Heap) (lH : Heap) (lA : Option Addr) (l : List MsgC) (lc : Nat) (hl : My lH H lA lc 13 (l.map MsgC.cells)) (nl : lH.next ≤ H.next) (ll : l.length ≤ 400) (bl : Spec.Short l) (lE : Heap) (el : Each MsgC.sub lE H l) (nel : lE.next ≤ H.next) (n : Nat) (hn : n < H.next) (Bn : H.blk n = some ⟨[.slice lA l.length lc], 0, false, false⟩) : ∃ v H', Spec Try.prog 18 [.pointer (some ⟨n, 0, none⟩)] H v H' ∧ ((v = .int .i64 (l.length : Int)) ∧ (Ext H H')) := by
  refine spec_go1 E0_ok 10 (f := 18) Try.func18 rfl rfl rfl ?_
  refine aw_seq ?_
  refine aw_reg ?_
  refine st_op (ev_assign rfl) rfl rfl rfl ?_
  try show aw _ _ _ _ _ _
  refine aw_seq ?_
  refine aw_seq ?_
  refine aw_reg ?_
  refine st_op (ev_move rfl) rfl rfl rfl ?_
  refine st_op (ev_nilEq rfl rfl Try.underlying40) rfl rfl rfl ?_
  try show aw _ _ _ _ _ _
  refine aw_cond (t := false) rfl ?_
  try show aw _ _ _ _ _ _
  refine aw_skip ?_
  try show aw _ _ _ _ _ _
  refine aw_seq ?_
  refine aw_reg ?_
  refine st_op (ev_move rfl) rfl rfl rfl ?_
  refine st_op (ev_nilCheck rfl) rfl rfl rfl ?_
  refine st_op (ev_fieldAddr rfl fa73_0 (o' := 0) rfl) rfl rfl rfl ?_
  refine st_op (ev_load rfl (lvar_one one71 Bn rfl)) rfl rfl rfl ?_
  refine st_op (ev_lenSl rfl Try.underlying71) rfl rfl rfl ?_
  refine st_op (ev_assign rfl) rfl rfl rfl ?_
  try show aw _ _ _ _ _ _
  refine aw_ret ?_
  have hres : (l.length : Int) = (l.length : Int) := by rfl
  exact ⟨.int .i64 (l.length : Int), rfl, by first | (rw [hres]; done) | rw [← hres], (Ext.refl H)⟩
theorem net_Look_spec (H : Heap) (lH : Heap) (lA : Option Addr) (l : List MsgC) (lc : Nat) (hl : My lH H lA lc 13 (l.map MsgC.cells)) (nl : lH.next ≤ H.next) (ll : l.length ≤ 400) (bl : Spec.Short l) (lE : Heap) (el : Each MsgC.sub lE H l) (nel : lE.next ≤ H.next) (n : Nat) (hn : n < H.next) (Bn : H.blk n = some ⟨[.slice lA l.length lc], 0, false, false⟩) (i : Int) (hi : -9223372036854775808 ≤ i ∧ i ≤ 9223372036854775807) : ∃ v H', Spec Try.prog 19 [.pointer (some ⟨n, 0, none⟩), .int .i64 i] H v H' ∧ (∃ rA8 rc8, (v = .tuple #[.agg #[.int .i64 ((Spec.lookF (l.map MsgC.val) i).1), .int .i64 ((Spec.lookF (l.map MsgC.val) i).2.1), .int .i64 ((Spec.lookF (l.map MsgC.val) i).2.2.1), .int .i64 ((Spec.lookF (l.map MsgC.val) i).2.2.2.1), .int .i64 ((Spec.lookF (l.map MsgC.val) i).2.2.2.2.1), .int .i64 ((Spec.lookF (l.map MsgC.val) i).2.2.2.2.2.1), .int .i64 ((Spec.lookF (l.map MsgC.val) i).2.2.2.2.2.2.1), .bool ((Spec.lookF (l.map MsgC.val) i).2.2.2.2.2.2.2.1), .slice rA8 (((Spec.lookF (l.map MsgC.val) i).2.2.2.2.2.2.2.2.1).length) rc8, .int .i64 ((Spec.lookF (l.map MsgC.val) i).2.2.2.2.2.2.2.2.2.1), .int .i64 ((Spec.lookF (l.map MsgC.val) i).2.2.2.2.2.2.2.2.2.2.1), .string ((Spec.lookF (l.map MsgC.val) i).2.2.2.2.2.2.2.2.2.2.2.1), .string ((Spec.lookF (l.map MsgC.val) i).2.2.2.2.2.2.2.2.2.2.2.2.1)], .bool ((Spec.lookF (l.map MsgC.val) i).2.2.2.2.2.2.2.2.2.2.2.2.2)]) ∧ (My H H' rA8 rc8 4 (((Spec.lookF (l.map MsgC.val) i).2.2.2.2.2.2.2.2.1).map Entry.cells)) ∧ (Ext H H')) := by
  refine spec_go2 E0_ok 23 (f := 19) Try.func19 rfl rfl rfl ?_
  refine aw_seq ?_
  refine aw_reg ?_
  obtain ⟨b1, H2, he3, b1e, H2n_, hB5, f4⟩ := mem_alloc H zero26
  refine st_op (he3 _ _ _ _ _ _ _) rfl rfl rfl ?_
  have hx6 : Ext H H2 := Ext.new (by omega) H2n_ f4
  have H2n : H.next ≤ H2.next := hx6.1
  refine st_op (ev_assign rfl) rfl rfl rfl ?_
  try show aw _ _ _ _ _ _
  refine aw_seq ?_
  refine aw_seq ?_
  refine aw_reg ?_
  refine st_op (ev_move rfl) rfl rfl rfl ?_
  refine st_op (ev_int rfl rfl rfl) rfl rfl rfl ?_
  refine st_op (ev_move rfl) rfl rfl rfl ?_
  refine st_bool 8 rfl (fun hb7 => ?_) (fun hb7 => ?_)
  ·
    have hb7 := of_decide_eq_true hb7
    refine st_skip rfl rfl rfl ?_
    refine st_skip rfl rfl rfl ?_
    refine st_skip rfl rfl rfl ?_
    refine st_skip rfl rfl rfl ?_
    refine st_op (ev_pickT rfl rfl) rfl rfl rfl ?_
    try show aw _ _ _ _ _ _
    refine aw_cond (t := true) rfl ?_
    try show aw _ _ _ _ _ _
    refine aw_seq ?_
    refine aw_reg ?_
    refine st_op (ev_build zero26 pl26 (parts := []) rfl (cs := [.int .i64 0, .int .i64 0, .int .i64 0, .int .i64 0, .int .i64 0, .int .i64 0, .int .i64 0, .bool false, .slice none 0 0, .int .i64 0, .int .i64 0, .string (⟨#[]⟩), .string (⟨#[]⟩)]) rfl) rfl rfl rfl ?_
    obtain ⟨H8, he9, H8n_, hB10, f11⟩ := mem_store (v := .agg #[.int .i64 0, .int .i64 0, .int .i64 0, .int .i64 0, .int .i64 0, .int .i64 0, .int .i64 0, .bool false, .slice none 0 0, .int .i64 0, .int .i64 0, .string (⟨#[]⟩), .string (⟨#[]⟩)]) (o := 0) (cs' := [.int .i64 0, .int .i64 0, .int .i64 0, .int .i64 0, .int .i64 0, .int .i64 0, .int .i64 0, .bool false, .slice none 0 0, .int .i64 0, .int .i64 0, .string (⟨#[]⟩), .string (⟨#[]⟩)]) 13 rfl rfl size26 hB5 rfl rfl rfl
    refine st_op0 (he9 _ _ _ _ _ _ _ _ _ rfl rfl) rfl rfl ?_
    have hf12 : Fr (fun q => q = b1) H2 H8 := Fr.write H8n_ f11
    have H8n : H2.next ≤ H8.next := hf12.1
    refine st_op (ev_assign rfl) rfl rfl rfl ?_
    try show aw _ _ _ _ _ _
    refine aw_ret ?_
    have hm13 : My H8 H8 none 0 4 (([] : List Entry).map Entry.cells) := .nil
    have hx14 : Ext H H8 := (Ext.then hx6 hf12 (fun q hq e => by omega))
    have hres : (Spec.lookF (l.map MsgC.val) i) = (0, 0, 0, 0, 0, 0, 0, false, ([] : List Entry), 0, 0, (⟨#[]⟩ : ByteArray), (⟨#[]⟩ : ByteArray), false) := by exact Spec.look_out (by omega)
    exact ⟨.tuple #[.agg #[.int .i64 0, .int .i64 0, .int .i64 0, .int .i64 0, .int .i64 0, .int .i64 0, .int .i64 0, .bool false, .slice none 0 0, .int .i64 0, .int .i64 0, .string (⟨#[]⟩), .string (⟨#[]⟩)], .bool false], (resA_of (resL_cell rfl (lvar_part (l := [.int .i64 0, .int .i64 0, .int .i64 0, .int .i64 0, .int .i64 0, .int .i64 0, .int .i64 0, .bool false, .slice none 0 0, .int .i64 0, .int .i64 0, .string (⟨#[]⟩), .string (⟨#[]⟩)]) many26 hB10 rfl rfl (by decide)) (resL_tmp rfl resL_nil)) rfl), none, 0, by first | (rw [hres]; first | done | rfl | simp; done) | rfl, (by rw [hres]; exact (My.older hm13 (by omega))), hx14⟩
  ·
    have hb7 := of_decide_eq_false hb7
    refine st_op (ev_move rfl) rfl rfl rfl ?_
    refine st_op (ev_move rfl) rfl rfl rfl ?_
    refine st_call rfl rfl rfl ent18 rfl rfl rfl ?_
    have h15 := Each.ext el hx6
    have h16 := My.ext hl hx6
    have h17 := Ext.blk hx6 (by omega) Bn
    obtain ⟨_, H19, hs18, hs18v, hx20⟩ := net_Len_spec H2 lH lA l lc h16 (by omega) (by first | omega | (simp only [List.length_append, List.length_cons, List.length_nil, List.length_map, List.length_set, List.length_replicate, Spec.bytesOf_length]; omega) | (simp; omega)) (by first | assumption | omega | decide | (simp_all; done)) lE h15 (by omega) n (by omega) h17
    rw [hs18v] at hs18; clear hs18v
    refine ⟨_, H19, hs18, ?_⟩
    have H19n : H2.next ≤ H19.next := hx20.1
    refine st_op (ev_int rfl rfl rfl) rfl rfl rfl ?_
    refine st_op (ev_pickF rfl rfl) rfl rfl rfl ?_
    try show aw _ _ _ _ _ _
    by_cases hc21 : (decide (i ≥ (l.length : Int))) = true
    · refine aw_condT hc21 rfl ?_
      try show aw _ _ _ _ _ _
      have hc21 := of_decide_eq_true hc21
      refine aw_seq ?_
      refine aw_reg ?_
      refine st_op (ev_build zero26 pl26 (parts := []) rfl (cs := [.int .i64 0, .int .i64 0, .int .i64 0, .int .i64 0, .int .i64 0, .int .i64 0, .int .i64 0, .bool false, .slice none 0 0, .int .i64 0, .int .i64 0, .string (⟨#[]⟩), .string (⟨#[]⟩)]) rfl) rfl rfl rfl ?_
      have h22 := Ext.blk hx20 (by omega) hB5
      obtain ⟨H23, he24, H23n_, hB25, f26⟩ := mem_store (v := .agg #[.int .i64 0, .int .i64 0, .int .i64 0, .int .i64 0, .int .i64 0, .int .i64 0, .int .i64 0, .bool false, .slice none 0 0, .int .i64 0, .int .i64 0, .string (⟨#[]⟩), .string (⟨#[]⟩)]) (o := 0) (cs' := [.int .i64 0, .int .i64 0, .int .i64 0, .int .i64 0, .int .i64 0, .int .i64 0, .int .i64 0, .bool false, .slice none 0 0, .int .i64 0, .int .i64 0, .string (⟨#[]⟩), .string (⟨#[]⟩)]) 13 rfl rfl size26 h22 rfl rfl rfl
      refine st_op0 (he24 _ _ _ _ _ _ _ _ _ rfl rfl) rfl rfl ?_
      have hf27 : Fr (fun q => q = b1) H19 H23 := Fr.write H23n_ f26
      have H23n : H19.next ≤ H23.next := hf27.1
      refine st_op (ev_assign rfl) rfl rfl rfl ?_
      try show aw _ _ _ _ _ _
      refine aw_ret ?_
      have hm28 : My H23 H23 none 0 4 (([] : List Entry).map Entry.cells) := .nil
      have hx29 : Ext H H23 := (Ext.then (Ext.trans hx6 hx20) hf27 (fun q hq e => by omega))
      have hres : (Spec.lookF (l.map MsgC.val) i) = (0, 0, 0, 0, 0, 0, 0, false, ([] : List Entry), 0, 0, (⟨#[]⟩ : ByteArray), (⟨#[]⟩ : ByteArray), false) := by exact Spec.look_out (by omega)
      exact ⟨.tuple #[.agg #[.int .i64 0, .int .i64 0, .int .i64 0, .int .i64 0, .int .i64 0, .int .i64 0, .int .i64 0, .bool false, .slice none 0 0, .int .i64 0, .int .i64 0, .string (⟨#[]⟩), .string (⟨#[]⟩)], .bool false], (resA_of (resL_cell rfl (lvar_part (l := [.int .i64 0, .int .i64 0, .int .i64 0, .int .i64 0, .int .i64 0, .int .i64 0, .int .i64 0, .bool false, .slice none 0 0, .int .i64 0, .int .i64 0, .string (⟨#[]⟩), .string (⟨#[]⟩)]) many26 hB25 rfl rfl (by decide)) (resL_tmp rfl resL_nil)) rfl), none, 0, by first | (rw [hres]; first | done | rfl | simp; done) | rfl, (by rw [hres]; exact (My.older hm28 (by omega))), hx29⟩
    · rw [Bool.not_eq_true] at hc21; refine aw_condF hc21 rfl ?_
      try show aw _ _ _ _ _ _
      have hc21 := of_decide_eq_false hc21
      refine aw_skip ?_
      try show aw _ _ _ _ _ _
      refine aw_seq ?_
      refine aw_reg ?_
      refine st_op (ev_move rfl) rfl rfl rfl ?_
      refine st_op (ev_nilCheck rfl) rfl rfl rfl ?_
      refine st_op (ev_fieldAddr rfl fa73_0 (o' := 0) rfl) rfl rfl rfl ?_
      have h30 := Ext.blk hx20 (by omega) h17
      refine st_op (ev_load rfl (lvar_one one71 h30 rfl)) rfl rfl rfl ?_
      refine st_op (ev_move rfl) rfl rfl rfl ?_
      have h31 := My.ext h16 hx20
      have hi32 : 0 ≤ (i : Int) := by omega
      have hi33 : (i : Int) < ((l.length : Nat) : Int) := by first | omega | (simp only [List.length_append, List.length_cons, List.length_nil, List.length_map, List.length_set, List.length_replicate, Spec.bytesOf_length]; omega) | (simp; omega)
      obtain ⟨x34, hx35⟩ : ∃ e, l[(i).toNat]? = some e := ⟨_, List.getElem?_eq_getElem (by first | omega | (simp only [List.length_append, List.length_cons, List.length_nil, List.length_map, List.length_set, List.length_replicate, Spec.bytesOf_length]; omega) | (simp; omega))⟩
      have h37 := Each.ext h15 hx20
      have hm36 : My lE H19 x34.esA x34.esc 4 (x34.es.map Entry.cells) := Each.get h37 hx35
      have x34e := (show Spec.Short l from by first | exact bl | assumption) _ (List.mem_of_getElem? hx35)
      refine st_op (ev_at rfl rfl (My.row h31) (getMap MsgC.cells hx35) (by first | rfl | omega | simp) hi32 hi33 el71) rfl rfl rfl ?_
      refine st_op (ev_atN (cs := [.int .i64 x34.kind, .int .i64 x34.from_, .int .i64 x34.to_, .int .i64 x34.term, .int .i64 x34.index, .int .i64 x34.logterm, .int .i64 x34.commit, .bool x34.yes, .slice x34.esA x34.es.length x34.esc, .int .i64 x34.snap.index, .int .i64 x34.snap.term, .string x34.snap.conf, .string x34.snap.data]) rfl (My.row h31) (getMap MsgC.cells hx35) many26 rfl rfl (by decide)) rfl rfl rfl ?_
      refine st_call rfl rfl rfl ent37 rfl rfl rfl ?_
      obtain ⟨_, H39, hs38, A41, c42, hs38v, hm43, hx40⟩ := net_own_spec H19 x34.kind x34.from_ x34.to_ x34.term x34.index x34.logterm x34.commit x34.yes x34.esA x34.es x34.esc (My.row hm36) (My.capF hm36 (by first | omega | (simp only [List.length_append, List.length_cons, List.length_nil, List.length_map, List.length_set, List.length_replicate, Spec.bytesOf_length]; omega) | (simp; omega))) (by first | omega | (simp only [List.length_append, List.length_cons, List.length_nil, List.length_map, List.length_set, List.length_replicate, Spec.bytesOf_length]; omega) | (simp; omega)) x34.snap.index x34.snap.term x34.snap.conf x34.snap.data
      rw [hs38v] at hs38; clear hs38v
      refine ⟨_, H39, hs38, ?_⟩
      have H39n : H19.next ≤ H39.next := hx40.1
      have hx45 : Ext H2 H39 := (Ext.trans hx20 hx40)
      have h44 := Ext.blk hx45 (by omega) hB5
      obtain ⟨H46, he47, H46n_, hB48, f49⟩ := mem_store (v := .agg #[.int .i64 x34.kind, .int .i64 x34.from_, .int .i64 x34.to_, .int .i64 x34.term, .int .i64 x34.index, .int .i64 x34.logterm, .int .i64 x34.commit, .bool x34.yes, .slice A41 x34.es.length c42, .int .i64 x34.snap.index, .int .i64 x34.snap.term, .string x34.snap.conf, .string x34.snap.data]) (o := 0) (cs' := [.int .i64 x34.kind, .int .i64 x34.from_, .int .i64 x34.to_, .int .i64 x34.term, .int .i64 x34.index, .int .i64 x34.logterm, .int .i64 x34.commit, .bool x34.yes, .slice A41 x34.es.length c42, .int .i64 x34.snap.index, .int .i64 x34.snap.term, .string x34.snap.conf, .string x34.snap.data]) 13 rfl rfl size26 h44 rfl rfl rfl
      refine st_op0 (he47 _ _ _ _ _ _ _ _ _ rfl rfl) rfl rfl ?_
      have hf50 : Fr (fun q => q = b1) H39 H46 := Fr.write H46n_ f49
      have H46n : H39.next ≤ H46.next := hf50.1
      refine st_op (ev_assign rfl) rfl rfl rfl ?_
      try show aw _ _ _ _ _ _
      refine aw_ret ?_
      have h51 := My.frS hm43 hf50 (fun q hq e => ⟨_, e ▸ h44, show (0 : Nat) ≠ 4 by decide⟩)
      have hx52 : Ext H H46 := (Ext.then (Ext.trans (Ext.trans hx6 hx20) hx40) hf50 (fun q hq e => by omega))
      have hres : (Spec.lookF (l.map MsgC.val) i) = (x34.kind, x34.from_, x34.to_, x34.term, x34.index, x34.logterm, x34.commit, x34.yes, x34.es, x34.snap.index, x34.snap.term, x34.snap.conf, x34.snap.data, true) := by exact Spec.look_at (by omega) hx35
      exact ⟨.tuple #[.agg #[.int .i64 x34.kind, .int .i64 x34.from_, .int .i64 x34.to_, .int .i64 x34.term, .int .i64 x34.index, .int .i64 x34.logterm, .int .i64 x34.commit, .bool x34.yes, .slice A41 x34.es.length c42, .int .i64 x34.snap.index, .int .i64 x34.snap.term, .string x34.snap.conf, .string x34.snap.data], .bool true], (resA_of (resL_cell rfl (lvar_part (l := [.int .i64 x34.kind, .int .i64 x34.from_, .int .i64 x34.to_, .int .i64 x34.term, .int .i64 x34.index, .int .i64 x34.logterm, .int .i64 x34.commit, .bool x34.yes, .slice A41 x34.es.length c42, .int .i64 x34.snap.index, .int .i64 x34.snap.term, .string x34.snap.conf, .string x34.snap.data]) many26 hB48 rfl rfl (by decide)) (resL_tmp rfl resL_nil)) rfl), A41, c42, by first | (rw [hres]; first | done | rfl | simp; done) | rfl, (by rw [hres]; exact (My.older h51 (by omega))), hx52⟩
theorem ref17_EqEntry_spec (H : Heap) (a_index : Int) (a_term : Int) (a_kind : Int) (a_data : ByteArray) (b_index : Int) (b_term : Int) (b_kind : Int) (b_data : ByteArray) : ∃ v H', Spec Try.prog 55 [.agg #[.int .i64 a_index, .int .i64 a_term, .int .i64 a_kind, .string a_data], .agg #[.int .i64 b_index, .int .i64 b_term, .int .i64 b_kind, .string b_data]] H v H' ∧ ((v = .bool (decide (a_index = b_index ∧ a_term = b_term ∧ a_kind = b_kind ∧ a_data = b_data))) ∧ (Ext H H')) := by
  refine spec_go2 E0_ok 31 (f := 55) Try.func55 rfl rfl rfl ?_
  refine aw_seq ?_
  refine aw_reg ?_
  obtain ⟨b1, H2, he3, b1e, H2n_, hB5, f4⟩ := mem_box (P := Try.prog) H (v := .agg #[.int .i64 a_index, .int .i64 a_term, .int .i64 a_kind, .string a_data]) (cs := [.int .i64 a_index, .int .i64 a_term, .int .i64 a_kind, .string a_data]) rfl rfl
  refine st_op (he3 _ _ _ _ _ _ _ _ _ rfl) rfl rfl rfl ?_
  have hx6 : Ext H H2 := Ext.new (by omega) H2n_ f4
  have H2n : H.next ≤ H2.next := hx6.1
  obtain ⟨b7, H8, he9, b7e, H8n_, hB11, f10⟩ := mem_box (P := Try.prog) H2 (v := .agg #[.int .i64 b_index, .int .i64 b_term, .int .i64 b_kind, .string b_data]) (cs := [.int .i64 b_index, .int .i64 b_term, .int .i64 b_kind, .string b_data]) rfl rfl
  refine st_op (he9 _ _ _ _ _ _ _ _ _ rfl) rfl rfl rfl ?_
  have hx12 : Ext H2 H8 := Ext.new (by omega) H8n_ f10
  have H8n : H2.next ≤ H8.next := hx12.1
  refine st_op (ev_assign rfl) rfl rfl rfl ?_
  try show aw _ _ _ _ _ _
  refine aw_seq ?_
  refine aw_reg ?_
  refine st_op (ev_fieldAddr rfl fa45_0 (o' := 0) rfl) rfl rfl rfl ?_
  have h13 := Ext.blk hx12 (by omega) hB5
  refine st_op (ev_load rfl (lvar_one one2 h13 rfl)) rfl rfl rfl ?_
  refine st_op (ev_fieldAddr rfl fa45_0 (o' := 0) rfl) rfl rfl rfl ?_
  refine st_op (ev_load rfl (lvar_one one2 hB11 rfl)) rfl rfl rfl ?_
  refine st_op (ev_int rfl rfl rfl) rfl rfl rfl ?_
  refine st_op (ev_move rfl) rfl rfl rfl ?_
  refine st_bool 10 rfl (fun hb14 => ?_) (fun hb14 => ?_)
  ·
    have hb14 := eq_of_beq hb14
    refine st_op (ev_fieldAddr rfl fa45_1 (o' := 1) rfl) rfl rfl rfl ?_
    refine st_op (ev_load rfl (lvar_one one2 h13 rfl)) rfl rfl rfl ?_
    refine st_op (ev_fieldAddr rfl fa45_1 (o' := 1) rfl) rfl rfl rfl ?_
    refine st_op (ev_load rfl (lvar_one one2 hB11 rfl)) rfl rfl rfl ?_
    refine st_op (ev_int rfl rfl rfl) rfl rfl rfl ?_
    refine st_op (ev_pickT rfl rfl) rfl rfl rfl ?_
    refine st_op (ev_move rfl) rfl rfl rfl ?_
    refine st_bool 17 rfl (fun hb15 => ?_) (fun hb15 => ?_)
    ·
      have hb15 := eq_of_beq hb15
      refine st_op (ev_fieldAddr rfl fa45_2 (o' := 2) rfl) rfl rfl rfl ?_
      refine st_op (ev_load rfl (lvar_one one3 h13 rfl)) rfl rfl rfl ?_
      refine st_op (ev_fieldAddr rfl fa45_2 (o' := 2) rfl) rfl rfl rfl ?_
      refine st_op (ev_load rfl (lvar_one one3 hB11 rfl)) rfl rfl rfl ?_
      refine st_op (ev_int rfl rfl rfl) rfl rfl rfl ?_
      refine st_op (ev_pickT rfl rfl) rfl rfl rfl ?_
      refine st_op (ev_move rfl) rfl rfl rfl ?_
      refine st_bool 24 rfl (fun hb16 => ?_) (fun hb16 => ?_)
      ·
        have hb16 := eq_of_beq hb16
        refine st_op (ev_fieldAddr rfl fa45_3 (o' := 3) rfl) rfl rfl rfl ?_
        refine st_op (ev_load rfl (lvar_one one9 h13 rfl)) rfl rfl rfl ?_
        refine st_op (ev_fieldAddr rfl fa45_3 (o' := 3) rfl) rfl rfl rfl ?_
        refine st_op (ev_load rfl (lvar_one one9 hB11 rfl)) rfl rfl rfl ?_
        refine st_op (ev_str rfl rfl rfl) rfl rfl rfl ?_
        refine st_op (ev_pickT rfl rfl) rfl rfl rfl ?_
        refine st_op (ev_assign rfl) rfl rfl rfl ?_
        try show aw _ _ _ _ _ _
        refine aw_ret ?_
        have hx17 : Ext H H8 := (Ext.trans hx6 hx12)
        have hres : (decide (a_index = b_index ∧ a_term = b_term ∧ a_kind = b_kind ∧ a_data = b_data)) = ((a_data).toList == (b_data).toList) := by rw [Bool.eq_iff_iff]; simp_all [Spec.ba_iff]
        exact ⟨.bool ((a_data).toList == (b_data).toList), rfl, by first | (rw [hres]; done) | rw [← hres], hx17⟩
      ·
        have hb16 := ne_of_beq_false hb16
        refine st_skip rfl rfl rfl ?_
        refine st_skip rfl rfl rfl ?_
        refine st_skip rfl rfl rfl ?_
        refine st_skip rfl rfl rfl ?_
        refine st_skip rfl rfl rfl ?_
        refine st_op (ev_pickF rfl rfl) rfl rfl rfl ?_
        refine st_op (ev_assign rfl) rfl rfl rfl ?_
        try show aw _ _ _ _ _ _
        refine aw_ret ?_
        have hx18 : Ext H H8 := (Ext.trans hx6 hx12)
        have hres : (decide (a_index = b_index ∧ a_term = b_term ∧ a_kind = b_kind ∧ a_data = b_data)) = false := by rw [Bool.eq_iff_iff]; simp_all [Spec.ba_iff]
        exact ⟨.bool false, rfl, by first | (rw [hres]; done) | rw [← hres], hx18⟩
    ·
      have hb15 := ne_of_beq_false hb15
      refine st_skip rfl rfl rfl ?_
      refine st_skip rfl rfl rfl ?_
      refine st_skip rfl rfl rfl ?_
      refine st_skip rfl rfl rfl ?_
      refine st_skip rfl rfl rfl ?_
      refine st_op (ev_pickF rfl rfl) rfl rfl rfl ?_
      refine st_op (ev_move rfl) rfl rfl rfl ?_
      refine st_skip rfl rfl rfl ?_
      refine st_skip rfl rfl rfl ?_
      refine st_skip rfl rfl rfl ?_
      refine st_skip rfl rfl rfl ?_
      refine st_skip rfl rfl rfl ?_
      refine st_op (ev_pickF rfl rfl) rfl rfl rfl ?_
      refine st_op (ev_assign rfl) rfl rfl rfl ?_
      try show aw _ _ _ _ _ _
      refine aw_ret ?_
      have hx19 : Ext H H8 := (Ext.trans hx6 hx12)
      have hres : (decide (a_index = b_index ∧ a_term = b_term ∧ a_kind = b_kind ∧ a_data = b_data)) = false := by rw [Bool.eq_iff_iff]; simp_all [Spec.ba_iff]
      exact ⟨.bool false, rfl, by first | (rw [hres]; done) | rw [← hres], hx19⟩
  ·
    have hb14 := ne_of_beq_false hb14
    refine st_skip rfl rfl rfl ?_
    refine st_skip rfl rfl rfl ?_
    refine st_skip rfl rfl rfl ?_
    refine st_skip rfl rfl rfl ?_
    refine st_skip rfl rfl rfl ?_
    refine st_op (ev_pickF rfl rfl) rfl rfl rfl ?_
    refine st_op (ev_move rfl) rfl rfl rfl ?_
    refine st_skip rfl rfl rfl ?_
    refine st_skip rfl rfl rfl ?_
    refine st_skip rfl rfl rfl ?_
    refine st_skip rfl rfl rfl ?_
    refine st_skip rfl rfl rfl ?_
    refine st_op (ev_pickF rfl rfl) rfl rfl rfl ?_
    refine st_op (ev_move rfl) rfl rfl rfl ?_
    refine st_skip rfl rfl rfl ?_
    refine st_skip rfl rfl rfl ?_
    refine st_skip rfl rfl rfl ?_
    refine st_skip rfl rfl rfl ?_
    refine st_skip rfl rfl rfl ?_
    refine st_op (ev_pickF rfl rfl) rfl rfl rfl ?_
    refine st_op (ev_assign rfl) rfl rfl rfl ?_
    try show aw _ _ _ _ _ _
    refine aw_ret ?_
    have hx20 : Ext H H8 := (Ext.trans hx6 hx12)
    have hres : (decide (a_index = b_index ∧ a_term = b_term ∧ a_kind = b_kind ∧ a_data = b_data)) = false := by rw [Bool.eq_iff_iff]; simp_all [Spec.ba_iff]
    exact ⟨.bool false, rfl, by first | (rw [hres]; done) | rw [← hres], hx20⟩
theorem ref17_EqEntries_spec (H : Heap) (uaA : Option Addr) (ua : List Entry) (uac : Nat) (hua : Row H uaA uac 4 (ua.map Entry.cells)) (cua : ua.length ≤ uac) (lua : ua.length ≤ 140737488355328) (vaA : Option Addr) (va : List Entry) (vac : Nat) (hva : Row H vaA vac 4 (va.map Entry.cells)) (cva : va.length ≤ vac) (lva : va.length ≤ 140737488355328) : ∃ v H', Spec Try.prog 36 [.slice uaA ua.length uac, .slice vaA va.length vac] H v H' ∧ ((v = .bool (Spec.eqEs ua va)) ∧ (Ext H H')) := by
  refine spec_go2 E0_ok 27 (f := 36) Try.func36 rfl rfl rfl ?_
  refine aw_seq ?_
  refine aw_reg ?_
  refine st_op (ev_assign rfl) rfl rfl rfl ?_
  try show aw _ _ _ _ _ _
  refine aw_seq ?_
  refine aw_seq ?_
  refine aw_reg ?_
  refine st_op (ev_move rfl) rfl rfl rfl ?_
  refine st_op (ev_lenSl rfl Try.underlying22) rfl rfl rfl ?_
  refine st_op (ev_move rfl) rfl rfl rfl ?_
  refine st_op (ev_lenSl rfl Try.underlying22) rfl rfl rfl ?_
  refine st_op (ev_int rfl rfl rfl) rfl rfl rfl ?_
  try show aw _ _ _ _ _ _
  by_cases hc1 : ((ua.length : Int) != (va.length : Int)) = true
  · refine aw_condT hc1 rfl ?_
    try show aw _ _ _ _ _ _
    have hc1 : ¬ ((ua.length : Int) = (va.length : Int)) := by simpa using hc1
    refine aw_seq ?_
    refine aw_reg ?_
    refine st_op (ev_assign rfl) rfl rfl rfl ?_
    try show aw _ _ _ _ _ _
    refine aw_ret ?_
    have hres : (Spec.eqEs ua va) = false := by exact Spec.eqEs_len (by omega)
    exact ⟨.bool false, rfl, by first | (rw [hres]; done) | rw [← hres], (Ext.refl H)⟩
  · rw [Bool.not_eq_true] at hc1; refine aw_condF hc1 rfl ?_
    try show aw _ _ _ _ _ _
    have hc1 : ((ua.length : Int) = (va.length : Int)) := by simpa using hc1
    refine aw_skip ?_
    try show aw _ _ _ _ _ _
    refine aw_seq ?_
    refine aw_seq ?_
    refine aw_reg ?_
    refine st_op (ev_assign rfl) rfl rfl rfl ?_
    try show aw _ _ _ _ _ _
    refine aw_block ?_
    refine aw_keep [0, 1, 5] (l' := (.cons 0 (.slice uaA ua.length uac) (.cons 1 (.slice vaA va.length vac) (.cons 5 (.int .i64 0) .nil)))) (by repeat (first | exact Up.done | refine Up.then ?_ | refine Up.inBlock ?_)) rfl ?_
    refine aw_iter (α := Nat × Heap) (fun a => ua.length - a.1) (fun a => (.cons 0 (.slice uaA ua.length uac) (.cons 1 (.slice vaA va.length vac) (.cons 5 (.int .i64 (a.1 : Int)) .nil)))) (fun a => a.2) (fun a => (a.1 ≤ ua.length) ∧ (Spec.eqEs ua va = Spec.eqEs (ua.drop a.1) (va.drop a.1)) ∧ (Ext H a.2)) (0, H) ⟨(show 0 ≤ ua.length from Nat.zero_le _), (show Spec.eqEs ua va = Spec.eqEs (ua.drop 0) (va.drop 0) from rfl), (show Ext H H from (Ext.refl H))⟩ ?_
    rintro ⟨i, Hl2⟩ ⟨hi, hv, hxl3⟩ ih4
    replace hi : i ≤ ua.length := hi
    replace hv : Spec.eqEs ua va = Spec.eqEs (ua.drop i) (va.drop i) := hv
    replace hxl3 : Ext H Hl2 := hxl3
    show aw _ _ _ (RL _ (.cons 0 (.slice uaA ua.length uac) (.cons 1 (.slice vaA va.length vac) (.cons 5 (.int .i64 (i : Int)) .nil)))) Hl2 _
    have Hl2n : H.next ≤ Hl2.next := hxl3.1
    refine aw_seq ?_
    refine aw_seq ?_
    refine aw_reg ?_
    refine st_op (ev_move rfl) rfl rfl rfl ?_
    refine st_op (ev_move rfl) rfl rfl rfl ?_
    refine st_op (ev_lenSl rfl Try.underlying22) rfl rfl rfl ?_
    refine st_op (ev_int rfl rfl rfl) rfl rfl rfl ?_
    try show aw _ _ _ _ _ _
    by_cases hc5 : (decide ((i : Int) < (ua.length : Int))) = true
    · refine aw_condT hc5 rfl ?_
      try show aw _ _ _ _ _ _
      have hc5 := of_decide_eq_true hc5
      refine aw_skip ?_
      try show aw _ _ _ _ _ _
      refine aw_seq ?_
      refine aw_block ?_
      refine aw_seq ?_
      refine aw_marks (fun b => b < Hl2.next) [(false, false), (false, false), (false, false), (false, false), (false, false), (false, false), (false, false), (false, false), (false, false), (false, false)] mixed (by kernel_rfl) (by kernel_rfl) ?_
      refine sm_op (ev_move rfl) rfl rfl rfl ?_
      refine sm_op (ev_move rfl) rfl rfl rfl ?_
      have h6 := Row.ext hua hxl3
      have hi7 : 0 ≤ ((i : Int) : Int) := by omega
      have hi8 : ((i : Int) : Int) < ((ua.length : Nat) : Int) := by first | omega | (simp only [List.length_append, List.length_cons, List.length_nil, List.length_map, List.length_set, List.length_replicate, Spec.bytesOf_length]; omega) | (simp; omega)
      obtain ⟨x9, hx10⟩ : ∃ e, ua[i]? = some e := ⟨_, List.getElem?_eq_getElem (by first | omega | (simp only [List.length_append, List.length_cons, List.length_nil, List.length_map, List.length_set, List.length_replicate, Spec.bytesOf_length]; omega) | (simp; omega))⟩
      refine sm_op (ev_at rfl rfl h6 (getMap Entry.cells hx10) (by first | rfl | omega | simp) hi7 hi8 el22) rfl rfl rfl ?_
      refine sm_op (ev_atN (cs := [.int .i64 x9.index, .int .i64 x9.term, .int .i64 x9.kind, .string x9.data]) rfl h6 (getMap Entry.cells hx10) many45 rfl rfl (by decide)) rfl rfl rfl ?_
      refine sm_op (ev_move rfl) rfl rfl rfl ?_
      refine sm_op (ev_move rfl) rfl rfl rfl ?_
      have h11 := Row.ext hva hxl3
      have hi12 : 0 ≤ ((i : Int) : Int) := by omega
      have hi13 : ((i : Int) : Int) < ((va.length : Nat) : Int) := by first | omega | (simp only [List.length_append, List.length_cons, List.length_nil, List.length_map, List.length_set, List.length_replicate, Spec.bytesOf_length]; omega) | (simp; omega)
      obtain ⟨x14, hx15⟩ : ∃ e, va[i]? = some e := ⟨_, List.getElem?_eq_getElem (by first | omega | (simp only [List.length_append, List.length_cons, List.length_nil, List.length_map, List.length_set, List.length_replicate, Spec.bytesOf_length]; omega) | (simp; omega))⟩
      refine sm_op (ev_at rfl rfl h11 (getMap Entry.cells hx15) (by first | rfl | omega | simp) hi12 hi13 el22) rfl rfl rfl ?_
      refine sm_op (ev_atN (cs := [.int .i64 x14.index, .int .i64 x14.term, .int .i64 x14.kind, .string x14.data]) rfl h11 (getMap Entry.cells hx15) many45 rfl rfl (by decide)) rfl rfl rfl ?_
      refine sm_call rfl rfl rfl ent55 rfl rfl rfl ?_
      obtain ⟨_, H17, hs16, hs16v, hx18⟩ := ref17_EqEntry_spec Hl2 x9.index x9.term x9.kind x9.data x14.index x14.term x14.kind x14.data
      rw [hs16v] at hs16; clear hs16v
      refine ⟨_, H17, hs16, (fun _ b hb => hx18.2 b (by omega)), ?_⟩
      have H17n : Hl2.next ≤ H17.next := hx18.1
      refine sm_op (ev_not rfl) rfl rfl rfl ?_
      try show aw _ _ _ _ _ _
      by_cases hc19 : (!(decide (x9.index = x14.index ∧ x9.term = x14.term ∧ x9.kind = x14.kind ∧ x9.data = x14.data))) = true
      · refine aw_condT hc19 rfl ?_
        try show aw _ _ _ _ _ _
        replace hc19 : (decide (x9.index = x14.index ∧ x9.term = x14.term ∧ x9.kind = x14.kind ∧ x9.data = x14.data)) = false := by rw [Bool.not_eq_true'] at hc19; exact hc19
        have hc19 := of_decide_eq_false hc19
        refine aw_seq ?_
        refine aw_reg ?_
        refine st_op (ev_assign rfl) rfl rfl rfl ?_
        try show aw _ _ _ _ _ _
        refine aw_ret ?_
        have hx20 : Ext H H17 := (Ext.trans hxl3 hx18)
        have hres : (Spec.eqEs ua va) = false := by rw [hv]; exact Spec.eqEs_fail hx10 hx15 (by assumption)
        exact ⟨.bool false, rfl, by first | (rw [hres]; done) | rw [← hres], hx20⟩
      · rw [Bool.not_eq_true] at hc19; refine aw_condF hc19 rfl ?_
        try show aw _ _ _ _ _ _
        replace hc19 : (decide (x9.index = x14.index ∧ x9.term = x14.term ∧ x9.kind = x14.kind ∧ x9.data = x14.data)) = true := by rw [Bool.not_eq_false'] at hc19; exact hc19
        have hc19 := of_decide_eq_true hc19
        refine aw_skip ?_
        try show aw _ _ _ _ _ _
        refine aw_reg ?_
        refine st_op (ev_move rfl) rfl rfl rfl ?_
        refine st_op (ev_int64 (c := (i : Int) + 1) rfl rfl rfl (by omega) (by omega)) rfl rfl rfl ?_
        refine st_op (ev_assign rfl) rfl rfl rfl ?_
        try show aw _ _ _ _ _ _
        have hx21 : Ext H H17 := (Ext.trans hxl3 hx18)
        refine aw_keep [0, 1, 5] (l' := (.cons 0 (.slice uaA ua.length uac) (.cons 1 (.slice vaA va.length vac) (.cons 5 (.int .i64 ((i : Int) + 1)) .nil)))) (by repeat (first | exact Up.done | refine Up.then ?_ | refine Up.inBlock ?_)) rfl ?_
        exact ih4 (i + 1, H17) ⟨(show (i + 1) ≤ ua.length from (by omega)), (show Spec.eqEs ua va = Spec.eqEs (ua.drop (i + 1)) (va.drop (i + 1)) from (by rw [hv]; exact Spec.eqEs_step hx10 hx15 (by assumption))), (show Ext H H17 from hx21)⟩ (by simp only; omega)
    · rw [Bool.not_eq_true] at hc5; refine aw_condF hc5 rfl ?_
      try show aw _ _ _ _ _ _
      have hc5 := of_decide_eq_false hc5
      refine aw_exit ?_
      try show aw _ _ _ _ _ _
      refine aw_seq ?_
      refine aw_reg ?_
      refine st_op (ev_assign rfl) rfl rfl rfl ?_
      try show aw _ _ _ _ _ _
      refine aw_ret ?_
      have hres : (Spec.eqEs ua va) = true := by rw [hv, List.drop_eq_nil_of_le (by omega), List.drop_eq_nil_of_le (by omega)]; rfl
      exact ⟨.bool true, rfl, by first | (rw [hres]; done) | rw [← hres], hxl3⟩
theorem law24_EqMsg_spec (H : Heap) (a_kind : Int) (a_from_ : Int) (a_to_ : Int) (a_term : Int) (a_index : Int) (a_logterm : Int) (a_commit : Int) (a_yes : Bool) (a_esA : Option Addr) (a_es : List Entry) (a_esc : Nat) (ha_es : Row H a_esA a_esc 4 (a_es.map Entry.cells)) (ca_es : a_es.length ≤ a_esc) (la_es : a_es.length ≤ 140737488355328) (a_s_index : Int) (a_s_term : Int) (a_s_conf : ByteArray) (a_s_data : ByteArray) (b_kind : Int) (b_from_ : Int) (b_to_ : Int) (b_term : Int) (b_index : Int) (b_logterm : Int) (b_commit : Int) (b_yes : Bool) (b_esA : Option Addr) (b_es : List Entry) (b_esc : Nat) (hb_es : Row H b_esA b_esc 4 (b_es.map Entry.cells)) (cb_es : b_es.length ≤ b_esc) (lb_es : b_es.length ≤ 140737488355328) (b_s_index : Int) (b_s_term : Int) (b_s_conf : ByteArray) (b_s_data : ByteArray) : ∃ v H', Spec Try.prog 14 [.agg #[.int .i64 a_kind, .int .i64 a_from_, .int .i64 a_to_, .int .i64 a_term, .int .i64 a_index, .int .i64 a_logterm, .int .i64 a_commit, .bool a_yes, .slice a_esA a_es.length a_esc, .int .i64 a_s_index, .int .i64 a_s_term, .string a_s_conf, .string a_s_data], .agg #[.int .i64 b_kind, .int .i64 b_from_, .int .i64 b_to_, .int .i64 b_term, .int .i64 b_index, .int .i64 b_logterm, .int .i64 b_commit, .bool b_yes, .slice b_esA b_es.length b_esc, .int .i64 b_s_index, .int .i64 b_s_term, .string b_s_conf, .string b_s_data]] H v H' ∧ ((v = .bool (decide (a_kind = b_kind ∧ a_from_ = b_from_ ∧ a_to_ = b_to_ ∧ a_term = b_term ∧ a_index = b_index ∧ a_logterm = b_logterm ∧ a_commit = b_commit ∧ a_yes = b_yes ∧ Spec.eqEs a_es b_es = true ∧ Spec.eqSn a_s_index a_s_term a_s_conf a_s_data b_s_index b_s_term b_s_conf b_s_data = true))) ∧ (Ext H H')) := by
  refine spec_go2 E0_ok 73 (f := 14) Try.func14 rfl rfl rfl ?_
  refine aw_seq ?_
  refine aw_reg ?_
  obtain ⟨b1, H2, he3, b1e, H2n_, hB5, f4⟩ := mem_box (P := Try.prog) H (v := .agg #[.int .i64 a_kind, .int .i64 a_from_, .int .i64 a_to_, .int .i64 a_term, .int .i64 a_index, .int .i64 a_logterm, .int .i64 a_commit, .bool a_yes, .slice a_esA a_es.length a_esc, .int .i64 a_s_index, .int .i64 a_s_term, .string a_s_conf, .string a_s_data]) (cs := [.int .i64 a_kind, .int .i64 a_from_, .int .i64 a_to_, .int .i64 a_term, .int .i64 a_index, .int .i64 a_logterm, .int .i64 a_commit, .bool a_yes, .slice a_esA a_es.length a_esc, .int .i64 a_s_index, .int .i64 a_s_term, .string a_s_conf, .string a_s_data]) rfl rfl
  refine st_op (he3 _ _ _ _ _ _ _ _ _ rfl) rfl rfl rfl ?_
  have hx6 : Ext H H2 := Ext.new (by omega) H2n_ f4
  have H2n : H.next ≤ H2.next := hx6.1
  obtain ⟨b7, H8, he9, b7e, H8n_, hB11, f10⟩ := mem_box (P := Try.prog) H2 (v := .agg #[.int .i64 b_kind, .int .i64 b_from_, .int .i64 b_to_, .int .i64 b_term, .int .i64 b_index, .int .i64 b_logterm, .int .i64 b_commit, .bool b_yes, .slice b_esA b_es.length b_esc, .int .i64 b_s_index, .int .i64 b_s_term, .string b_s_conf, .string b_s_data]) (cs := [.int .i64 b_kind, .int .i64 b_from_, .int .i64 b_to_, .int .i64 b_term, .int .i64 b_index, .int .i64 b_logterm, .int .i64 b_commit, .bool b_yes, .slice b_esA b_es.length b_esc, .int .i64 b_s_index, .int .i64 b_s_term, .string b_s_conf, .string b_s_data]) rfl rfl
  refine st_op (he9 _ _ _ _ _ _ _ _ _ rfl) rfl rfl rfl ?_
  have hx12 : Ext H2 H8 := Ext.new (by omega) H8n_ f10
  have H8n : H2.next ≤ H8.next := hx12.1
  refine st_op (ev_assign rfl) rfl rfl rfl ?_
  try show aw _ _ _ _ _ _
  refine aw_seq ?_
  refine aw_reg ?_
  refine st_op (ev_fieldAddr rfl fa26_0 (o' := 0) rfl) rfl rfl rfl ?_
  have h13 := Ext.blk hx12 (by omega) hB5
  refine st_op (ev_load rfl (lvar_one one3 h13 rfl)) rfl rfl rfl ?_
  refine st_op (ev_fieldAddr rfl fa26_0 (o' := 0) rfl) rfl rfl rfl ?_
  refine st_op (ev_load rfl (lvar_one one3 hB11 rfl)) rfl rfl rfl ?_
  refine st_op (ev_int rfl rfl rfl) rfl rfl rfl ?_
  refine st_op (ev_move rfl) rfl rfl rfl ?_
  refine st_bool 10 rfl (fun hb14 => ?_) (fun hb14 => ?_)
  ·
    have hb14 := eq_of_beq hb14
    refine st_op (ev_fieldAddr rfl fa26_1 (o' := 1) rfl) rfl rfl rfl ?_
    refine st_op (ev_load rfl (lvar_one one3 h13 rfl)) rfl rfl rfl ?_
    refine st_op (ev_fieldAddr rfl fa26_1 (o' := 1) rfl) rfl rfl rfl ?_
    refine st_op (ev_load rfl (lvar_one one3 hB11 rfl)) rfl rfl rfl ?_
    refine st_op (ev_int rfl rfl rfl) rfl rfl rfl ?_
    refine st_op (ev_pickT rfl rfl) rfl rfl rfl ?_
    refine st_op (ev_move rfl) rfl rfl rfl ?_
    refine st_bool 17 rfl (fun hb15 => ?_) (fun hb15 => ?_)
    ·
      have hb15 := eq_of_beq hb15
      refine st_op (ev_fieldAddr rfl fa26_2 (o' := 2) rfl) rfl rfl rfl ?_
      refine st_op (ev_load rfl (lvar_one one3 h13 rfl)) rfl rfl rfl ?_
      refine st_op (ev_fieldAddr rfl fa26_2 (o' := 2) rfl) rfl rfl rfl ?_
      refine st_op (ev_load rfl (lvar_one one3 hB11 rfl)) rfl rfl rfl ?_
      refine st_op (ev_int rfl rfl rfl) rfl rfl rfl ?_
      refine st_op (ev_pickT rfl rfl) rfl rfl rfl ?_
      refine st_op (ev_move rfl) rfl rfl rfl ?_
      refine st_bool 24 rfl (fun hb16 => ?_) (fun hb16 => ?_)
      ·
        have hb16 := eq_of_beq hb16
        refine st_op (ev_fieldAddr rfl fa26_3 (o' := 3) rfl) rfl rfl rfl ?_
        refine st_op (ev_load rfl (lvar_one one2 h13 rfl)) rfl rfl rfl ?_
        refine st_op (ev_fieldAddr rfl fa26_3 (o' := 3) rfl) rfl rfl rfl ?_
        refine st_op (ev_load rfl (lvar_one one2 hB11 rfl)) rfl rfl rfl ?_
        refine st_op (ev_int rfl rfl rfl) rfl rfl rfl ?_
        refine st_op (ev_pickT rfl rfl) rfl rfl rfl ?_
        refine st_op (ev_move rfl) rfl rfl rfl ?_
        refine st_bool 31 rfl (fun hb17 => ?_) (fun hb17 => ?_)
        ·
          have hb17 := eq_of_beq hb17
          refine st_op (ev_fieldAddr rfl fa26_4 (o' := 4) rfl) rfl rfl rfl ?_
          refine st_op (ev_load rfl (lvar_one one2 h13 rfl)) rfl rfl rfl ?_
          refine st_op (ev_fieldAddr rfl fa26_4 (o' := 4) rfl) rfl rfl rfl ?_
          refine st_op (ev_load rfl (lvar_one one2 hB11 rfl)) rfl rfl rfl ?_
          refine st_op (ev_int rfl rfl rfl) rfl rfl rfl ?_
          refine st_op (ev_pickT rfl rfl) rfl rfl rfl ?_
          refine st_op (ev_move rfl) rfl rfl rfl ?_
          refine st_bool 38 rfl (fun hb18 => ?_) (fun hb18 => ?_)
          ·
            have hb18 := eq_of_beq hb18
            refine st_op (ev_fieldAddr rfl fa26_5 (o' := 5) rfl) rfl rfl rfl ?_
            refine st_op (ev_load rfl (lvar_one one2 h13 rfl)) rfl rfl rfl ?_
            refine st_op (ev_fieldAddr rfl fa26_5 (o' := 5) rfl) rfl rfl rfl ?_
            refine st_op (ev_load rfl (lvar_one one2 hB11 rfl)) rfl rfl rfl ?_
            refine st_op (ev_int rfl rfl rfl) rfl rfl rfl ?_
            refine st_op (ev_pickT rfl rfl) rfl rfl rfl ?_
            refine st_op (ev_move rfl) rfl rfl rfl ?_
            refine st_bool 45 rfl (fun hb19 => ?_) (fun hb19 => ?_)
            ·
              have hb19 := eq_of_beq hb19
              refine st_op (ev_fieldAddr rfl fa26_6 (o' := 6) rfl) rfl rfl rfl ?_
              refine st_op (ev_load rfl (lvar_one one2 h13 rfl)) rfl rfl rfl ?_
              refine st_op (ev_fieldAddr rfl fa26_6 (o' := 6) rfl) rfl rfl rfl ?_
              refine st_op (ev_load rfl (lvar_one one2 hB11 rfl)) rfl rfl rfl ?_
              refine st_op (ev_int rfl rfl rfl) rfl rfl rfl ?_
              refine st_op (ev_pickT rfl rfl) rfl rfl rfl ?_
              refine st_op (ev_move rfl) rfl rfl rfl ?_
              refine st_bool 52 rfl (fun hb20 => ?_) (fun hb20 => ?_)
              ·
                have hb20 := eq_of_beq hb20
                refine st_op (ev_fieldAddr rfl fa26_7 (o' := 7) rfl) rfl rfl rfl ?_
                refine st_op (ev_load rfl (lvar_one one4 h13 rfl)) rfl rfl rfl ?_
                refine st_op (ev_fieldAddr rfl fa26_7 (o' := 7) rfl) rfl rfl rfl ?_
                refine st_op (ev_load rfl (lvar_one one4 hB11 rfl)) rfl rfl rfl ?_
                refine st_op (ev_eqBool isbool4 rfl rfl) rfl rfl rfl ?_
                refine st_op (ev_pickT rfl rfl) rfl rfl rfl ?_
                refine st_op (ev_move rfl) rfl rfl rfl ?_
                refine st_bool 59 rfl (fun hb21 => ?_) (fun hb21 => ?_)
                ·
                  have hb21 := eq_of_beq hb21
                  refine st_op (ev_fieldAddr rfl fa26_8 (o' := 8) rfl) rfl rfl rfl ?_
                  refine st_op (ev_load rfl (lvar_one one22 h13 rfl)) rfl rfl rfl ?_
                  refine st_op (ev_fieldAddr rfl fa26_8 (o' := 8) rfl) rfl rfl rfl ?_
                  refine st_op (ev_load rfl (lvar_one one22 hB11 rfl)) rfl rfl rfl ?_
                  refine st_call rfl rfl rfl ent36 rfl rfl rfl ?_
                  have hx23 : Ext H H8 := (Ext.trans hx6 hx12)
                  have h22 := Row.ext ha_es hx23
                  have h24 := Row.ext hb_es hx23
                  obtain ⟨_, H26, hs25, hs25v, hx27⟩ := ref17_EqEntries_spec H8 a_esA a_es a_esc h22 ca_es (by first | omega | (simp only [List.length_append, List.length_cons, List.length_nil, List.length_map, List.length_set, List.length_replicate, Spec.bytesOf_length]; omega) | (simp; omega)) b_esA b_es b_esc h24 cb_es (by first | omega | (simp only [List.length_append, List.length_cons, List.length_nil, List.length_map, List.length_set, List.length_replicate, Spec.bytesOf_length]; omega) | (simp; omega))
                  rw [hs25v] at hs25; clear hs25v
                  refine ⟨_, H26, hs25, ?_⟩
                  have H26n : H8.next ≤ H26.next := hx27.1
                  refine st_op (ev_pickT rfl rfl) rfl rfl rfl ?_
                  refine st_op (ev_move rfl) rfl rfl rfl ?_
                  refine st_bool 66 rfl (fun hb28 => ?_) (fun hb28 => ?_)
                  ·
                    refine st_op (ev_fieldAddr rfl fa26_9 (o' := 9) rfl) rfl rfl rfl ?_
                    have h29 := Ext.blk hx27 (by omega) h13
                    refine st_op (ev_load rfl (lvar_part (l := [.int .i64 a_s_index, .int .i64 a_s_term, .string a_s_conf, .string a_s_data]) many24 h29 rfl rfl (by decide))) rfl rfl rfl ?_
                    refine st_op (ev_fieldAddr rfl fa26_9 (o' := 9) rfl) rfl rfl rfl ?_
                    have h30 := Ext.blk hx27 (by omega) hB11
                    refine st_op (ev_load rfl (lvar_part (l := [.int .i64 b_s_index, .int .i64 b_s_term, .string b_s_conf, .string b_s_data]) many24 h30 rfl rfl (by decide))) rfl rfl rfl ?_
                    refine st_call rfl rfl rfl ent30 rfl rfl rfl ?_
                    obtain ⟨_, H32, hs31, hs31v, hx33⟩ := ref17_EqSnap_spec H26 a_s_index a_s_term a_s_conf a_s_data b_s_index b_s_term b_s_conf b_s_data
                    rw [hs31v] at hs31; clear hs31v
                    refine ⟨_, H32, hs31, ?_⟩
                    have H32n : H26.next ≤ H32.next := hx33.1
                    refine st_op (ev_pickT rfl rfl) rfl rfl rfl ?_
                    refine st_op (ev_assign rfl) rfl rfl rfl ?_
                    try show aw _ _ _ _ _ _
                    refine aw_ret ?_
                    have hx34 : Ext H H32 := (Ext.trans (Ext.trans hx23 hx27) hx33)
                    have hres : (decide (a_kind = b_kind ∧ a_from_ = b_from_ ∧ a_to_ = b_to_ ∧ a_term = b_term ∧ a_index = b_index ∧ a_logterm = b_logterm ∧ a_commit = b_commit ∧ a_yes = b_yes ∧ Spec.eqEs a_es b_es = true ∧ Spec.eqSn a_s_index a_s_term a_s_conf a_s_data b_s_index b_s_term b_s_conf b_s_data = true)) = (Spec.eqSn a_s_index a_s_term a_s_conf a_s_data b_s_index b_s_term b_s_conf b_s_data) := by rw [Bool.eq_iff_iff]; simp_all
                    exact ⟨.bool (Spec.eqSn a_s_index a_s_term a_s_conf a_s_data b_s_index b_s_term b_s_conf b_s_data), rfl, by first | (rw [hres]; done) | rw [← hres], hx34⟩
                  ·
                    refine st_skip rfl rfl rfl ?_
                    refine st_skip rfl rfl rfl ?_
                    refine st_skip rfl rfl rfl ?_
                    refine st_skip rfl rfl rfl ?_
                    refine st_skip rfl rfl rfl ?_
                    refine st_op (ev_pickF rfl rfl) rfl rfl rfl ?_
                    refine st_op (ev_assign rfl) rfl rfl rfl ?_
                    try show aw _ _ _ _ _ _
                    refine aw_ret ?_
                    have hx35 : Ext H H26 := (Ext.trans hx23 hx27)
                    have hres : (decide (a_kind = b_kind ∧ a_from_ = b_from_ ∧ a_to_ = b_to_ ∧ a_term = b_term ∧ a_index = b_index ∧ a_logterm = b_logterm ∧ a_commit = b_commit ∧ a_yes = b_yes ∧ Spec.eqEs a_es b_es = true ∧ Spec.eqSn a_s_index a_s_term a_s_conf a_s_data b_s_index b_s_term b_s_conf b_s_data = true)) = false := by rw [Bool.eq_iff_iff]; simp_all
                    exact ⟨.bool false, rfl, by first | (rw [hres]; done) | rw [← hres], hx35⟩
                ·
                  have hb21 := ne_of_beq_false hb21
                  refine st_skip rfl rfl rfl ?_
                  refine st_skip rfl rfl rfl ?_
                  refine st_skip rfl rfl rfl ?_
                  refine st_skip rfl rfl rfl ?_
                  refine st_skip rfl rfl rfl ?_
                  refine st_op (ev_pickF rfl rfl) rfl rfl rfl ?_
                  refine st_op (ev_move rfl) rfl rfl rfl ?_
                  refine st_skip rfl rfl rfl ?_
                  refine st_skip rfl rfl rfl ?_
                  refine st_skip rfl rfl rfl ?_
                  refine st_skip rfl rfl rfl ?_
                  refine st_skip rfl rfl rfl ?_
                  refine st_op (ev_pickF rfl rfl) rfl rfl rfl ?_
                  refine st_op (ev_assign rfl) rfl rfl rfl ?_
                  try show aw _ _ _ _ _ _
                  refine aw_ret ?_
                  have hx36 : Ext H H8 := (Ext.trans hx6 hx12)
                  have hres : (decide (a_kind = b_kind ∧ a_from_ = b_from_ ∧ a_to_ = b_to_ ∧ a_term = b_term ∧ a_index = b_index ∧ a_logterm = b_logterm ∧ a_commit = b_commit ∧ a_yes = b_yes ∧ Spec.eqEs a_es b_es = true ∧ Spec.eqSn a_s_index a_s_term a_s_conf a_s_data b_s_index b_s_term b_s_conf b_s_data = true)) = false := by rw [Bool.eq_iff_iff]; simp_all
                  exact ⟨.bool false, rfl, by first | (rw [hres]; done) | rw [← hres], hx36⟩
              ·
                have hb20 := ne_of_beq_false hb20
                refine st_skip rfl rfl rfl ?_
                refine st_skip rfl rfl rfl ?_
                refine st_skip rfl rfl rfl ?_
                refine st_skip rfl rfl rfl ?_
                refine st_skip rfl rfl rfl ?_
                refine st_op (ev_pickF rfl rfl) rfl rfl rfl ?_
                refine st_op (ev_move rfl) rfl rfl rfl ?_
                refine st_skip rfl rfl rfl ?_
                refine st_skip rfl rfl rfl ?_
                refine st_skip rfl rfl rfl ?_
                refine st_skip rfl rfl rfl ?_
                refine st_skip rfl rfl rfl ?_
                refine st_op (ev_pickF rfl rfl) rfl rfl rfl ?_
                refine st_op (ev_move rfl) rfl rfl rfl ?_
                refine st_skip rfl rfl rfl ?_
                refine st_skip rfl rfl rfl ?_
                refine st_skip rfl rfl rfl ?_
                refine st_skip rfl rfl rfl ?_
                refine st_skip rfl rfl rfl ?_
                refine st_op (ev_pickF rfl rfl) rfl rfl rfl ?_
                refine st_op (ev_assign rfl) rfl rfl rfl ?_
                try show aw _ _ _ _ _ _
                refine aw_ret ?_
                have hx37 : Ext H H8 := (Ext.trans hx6 hx12)
                have hres : (decide (a_kind = b_kind ∧ a_from_ = b_from_ ∧ a_to_ = b_to_ ∧ a_term = b_term ∧ a_index = b_index ∧ a_logterm = b_logterm ∧ a_commit = b_commit ∧ a_yes = b_yes ∧ Spec.eqEs a_es b_es = true ∧ Spec.eqSn a_s_index a_s_term a_s_conf a_s_data b_s_index b_s_term b_s_conf b_s_data = true)) = false := by rw [Bool.eq_iff_iff]; simp_all
                exact ⟨.bool false, rfl, by first | (rw [hres]; done) | rw [← hres], hx37⟩
            ·
              have hb19 := ne_of_beq_false hb19
              refine st_skip rfl rfl rfl ?_
              refine st_skip rfl rfl rfl ?_
              refine st_skip rfl rfl rfl ?_
              refine st_skip rfl rfl rfl ?_
              refine st_skip rfl rfl rfl ?_
              refine st_op (ev_pickF rfl rfl) rfl rfl rfl ?_
              refine st_op (ev_move rfl) rfl rfl rfl ?_
              refine st_skip rfl rfl rfl ?_
              refine st_skip rfl rfl rfl ?_
              refine st_skip rfl rfl rfl ?_
              refine st_skip rfl rfl rfl ?_
              refine st_skip rfl rfl rfl ?_
              refine st_op (ev_pickF rfl rfl) rfl rfl rfl ?_
              refine st_op (ev_move rfl) rfl rfl rfl ?_
              refine st_skip rfl rfl rfl ?_
              refine st_skip rfl rfl rfl ?_
              refine st_skip rfl rfl rfl ?_
              refine st_skip rfl rfl rfl ?_
              refine st_skip rfl rfl rfl ?_
              refine st_op (ev_pickF rfl rfl) rfl rfl rfl ?_
              refine st_op (ev_move rfl) rfl rfl rfl ?_
              refine st_skip rfl rfl rfl ?_
              refine st_skip rfl rfl rfl ?_
              refine st_skip rfl rfl rfl ?_
              refine st_skip rfl rfl rfl ?_
              refine st_skip rfl rfl rfl ?_
              refine st_op (ev_pickF rfl rfl) rfl rfl rfl ?_
              refine st_op (ev_assign rfl) rfl rfl rfl ?_
              try show aw _ _ _ _ _ _
              refine aw_ret ?_
              have hx38 : Ext H H8 := (Ext.trans hx6 hx12)
              have hres : (decide (a_kind = b_kind ∧ a_from_ = b_from_ ∧ a_to_ = b_to_ ∧ a_term = b_term ∧ a_index = b_index ∧ a_logterm = b_logterm ∧ a_commit = b_commit ∧ a_yes = b_yes ∧ Spec.eqEs a_es b_es = true ∧ Spec.eqSn a_s_index a_s_term a_s_conf a_s_data b_s_index b_s_term b_s_conf b_s_data = true)) = false := by rw [Bool.eq_iff_iff]; simp_all
              exact ⟨.bool false, rfl, by first | (rw [hres]; done) | rw [← hres], hx38⟩
          ·
            have hb18 := ne_of_beq_false hb18
            refine st_skip rfl rfl rfl ?_
            refine st_skip rfl rfl rfl ?_
            refine st_skip rfl rfl rfl ?_
            refine st_skip rfl rfl rfl ?_
            refine st_skip rfl rfl rfl ?_
            refine st_op (ev_pickF rfl rfl) rfl rfl rfl ?_
            refine st_op (ev_move rfl) rfl rfl rfl ?_
            refine st_skip rfl rfl rfl ?_
            refine st_skip rfl rfl rfl ?_
            refine st_skip rfl rfl rfl ?_
            refine st_skip rfl rfl rfl ?_
            refine st_skip rfl rfl rfl ?_
            refine st_op (ev_pickF rfl rfl) rfl rfl rfl ?_
            refine st_op (ev_move rfl) rfl rfl rfl ?_
            refine st_skip rfl rfl rfl ?_
            refine st_skip rfl rfl rfl ?_
            refine st_skip rfl rfl rfl ?_
            refine st_skip rfl rfl rfl ?_
            refine st_skip rfl rfl rfl ?_
            refine st_op (ev_pickF rfl rfl) rfl rfl rfl ?_
            refine st_op (ev_move rfl) rfl rfl rfl ?_
            refine st_skip rfl rfl rfl ?_
            refine st_skip rfl rfl rfl ?_
            refine st_skip rfl rfl rfl ?_
            refine st_skip rfl rfl rfl ?_
            refine st_skip rfl rfl rfl ?_
            refine st_op (ev_pickF rfl rfl) rfl rfl rfl ?_
            refine st_op (ev_move rfl) rfl rfl rfl ?_
            refine st_skip rfl rfl rfl ?_
            refine st_skip rfl rfl rfl ?_
            refine st_skip rfl rfl rfl ?_
            refine st_skip rfl rfl rfl ?_
            refine st_skip rfl rfl rfl ?_
            refine st_op (ev_pickF rfl rfl) rfl rfl rfl ?_
            refine st_op (ev_assign rfl) rfl rfl rfl ?_
            try show aw _ _ _ _ _ _
            refine aw_ret ?_
            have hx39 : Ext H H8 := (Ext.trans hx6 hx12)
            have hres : (decide (a_kind = b_kind ∧ a_from_ = b_from_ ∧ a_to_ = b_to_ ∧ a_term = b_term ∧ a_index = b_index ∧ a_logterm = b_logterm ∧ a_commit = b_commit ∧ a_yes = b_yes ∧ Spec.eqEs a_es b_es = true ∧ Spec.eqSn a_s_index a_s_term a_s_conf a_s_data b_s_index b_s_term b_s_conf b_s_data = true)) = false := by rw [Bool.eq_iff_iff]; simp_all
            exact ⟨.bool false, rfl, by first | (rw [hres]; done) | rw [← hres], hx39⟩
        ·
          have hb17 := ne_of_beq_false hb17
          refine st_skip rfl rfl rfl ?_
          refine st_skip rfl rfl rfl ?_
          refine st_skip rfl rfl rfl ?_
          refine st_skip rfl rfl rfl ?_
          refine st_skip rfl rfl rfl ?_
          refine st_op (ev_pickF rfl rfl) rfl rfl rfl ?_
          refine st_op (ev_move rfl) rfl rfl rfl ?_
          refine st_skip rfl rfl rfl ?_
          refine st_skip rfl rfl rfl ?_
          refine st_skip rfl rfl rfl ?_
          refine st_skip rfl rfl rfl ?_
          refine st_skip rfl rfl rfl ?_
          refine st_op (ev_pickF rfl rfl) rfl rfl rfl ?_
          refine st_op (ev_move rfl) rfl rfl rfl ?_
          refine st_skip rfl rfl rfl ?_
          refine st_skip rfl rfl rfl ?_
          refine st_skip rfl rfl rfl ?_
          refine st_skip rfl rfl rfl ?_
          refine st_skip rfl rfl rfl ?_
          refine st_op (ev_pickF rfl rfl) rfl rfl rfl ?_
          refine st_op (ev_move rfl) rfl rfl rfl ?_
          refine st_skip rfl rfl rfl ?_
          refine st_skip rfl rfl rfl ?_
          refine st_skip rfl rfl rfl ?_
          refine st_skip rfl rfl rfl ?_
          refine st_skip rfl rfl rfl ?_
          refine st_op (ev_pickF rfl rfl) rfl rfl rfl ?_
          refine st_op (ev_move rfl) rfl rfl rfl ?_
          refine st_skip rfl rfl rfl ?_
          refine st_skip rfl rfl rfl ?_
          refine st_skip rfl rfl rfl ?_
          refine st_skip rfl rfl rfl ?_
          refine st_skip rfl rfl rfl ?_
          refine st_op (ev_pickF rfl rfl) rfl rfl rfl ?_
          refine st_op (ev_move rfl) rfl rfl rfl ?_
          refine st_skip rfl rfl rfl ?_
          refine st_skip rfl rfl rfl ?_
          refine st_skip rfl rfl rfl ?_
          refine st_skip rfl rfl rfl ?_
          refine st_skip rfl rfl rfl ?_
          refine st_op (ev_pickF rfl rfl) rfl rfl rfl ?_
          refine st_op (ev_assign rfl) rfl rfl rfl ?_
          try show aw _ _ _ _ _ _
          refine aw_ret ?_
          have hx40 : Ext H H8 := (Ext.trans hx6 hx12)
          have hres : (decide (a_kind = b_kind ∧ a_from_ = b_from_ ∧ a_to_ = b_to_ ∧ a_term = b_term ∧ a_index = b_index ∧ a_logterm = b_logterm ∧ a_commit = b_commit ∧ a_yes = b_yes ∧ Spec.eqEs a_es b_es = true ∧ Spec.eqSn a_s_index a_s_term a_s_conf a_s_data b_s_index b_s_term b_s_conf b_s_data = true)) = false := by rw [Bool.eq_iff_iff]; simp_all
          exact ⟨.bool false, rfl, by first | (rw [hres]; done) | rw [← hres], hx40⟩
      ·
        have hb16 := ne_of_beq_false hb16
        refine st_skip rfl rfl rfl ?_
        refine st_skip rfl rfl rfl ?_
        refine st_skip rfl rfl rfl ?_
        refine st_skip rfl rfl rfl ?_
        refine st_skip rfl rfl rfl ?_
        refine st_op (ev_pickF rfl rfl) rfl rfl rfl ?_
        refine st_op (ev_move rfl) rfl rfl rfl ?_
        refine st_skip rfl rfl rfl ?_
        refine st_skip rfl rfl rfl ?_
        refine st_skip rfl rfl rfl ?_
        refine st_skip rfl rfl rfl ?_
        refine st_skip rfl rfl rfl ?_
        refine st_op (ev_pickF rfl rfl) rfl rfl rfl ?_
        refine st_op (ev_move rfl) rfl rfl rfl ?_
        refine st_skip rfl rfl rfl ?_
        refine st_skip rfl rfl rfl ?_
        refine st_skip rfl rfl rfl ?_
        refine st_skip rfl rfl rfl ?_
        refine st_skip rfl rfl rfl ?_
        refine st_op (ev_pickF rfl rfl) rfl rfl rfl ?_
        refine st_op (ev_move rfl) rfl rfl rfl ?_
        refine st_skip rfl rfl rfl ?_
        refine st_skip rfl rfl rfl ?_
        refine st_skip rfl rfl rfl ?_
        refine st_skip rfl rfl rfl ?_
        refine st_skip rfl rfl rfl ?_
        refine st_op (ev_pickF rfl rfl) rfl rfl rfl ?_
        refine st_op (ev_move rfl) rfl rfl rfl ?_
        refine st_skip rfl rfl rfl ?_
        refine st_skip rfl rfl rfl ?_
        refine st_skip rfl rfl rfl ?_
        refine st_skip rfl rfl rfl ?_
        refine st_skip rfl rfl rfl ?_
        refine st_op (ev_pickF rfl rfl) rfl rfl rfl ?_
        refine st_op (ev_move rfl) rfl rfl rfl ?_
        refine st_skip rfl rfl rfl ?_
        refine st_skip rfl rfl rfl ?_
        refine st_skip rfl rfl rfl ?_
        refine st_skip rfl rfl rfl ?_
        refine st_skip rfl rfl rfl ?_
        refine st_op (ev_pickF rfl rfl) rfl rfl rfl ?_
        refine st_op (ev_move rfl) rfl rfl rfl ?_
        refine st_skip rfl rfl rfl ?_
        refine st_skip rfl rfl rfl ?_
        refine st_skip rfl rfl rfl ?_
        refine st_skip rfl rfl rfl ?_
        refine st_skip rfl rfl rfl ?_
        refine st_op (ev_pickF rfl rfl) rfl rfl rfl ?_
        refine st_op (ev_assign rfl) rfl rfl rfl ?_
        try show aw _ _ _ _ _ _
        refine aw_ret ?_
        have hx41 : Ext H H8 := (Ext.trans hx6 hx12)
        have hres : (decide (a_kind = b_kind ∧ a_from_ = b_from_ ∧ a_to_ = b_to_ ∧ a_term = b_term ∧ a_index = b_index ∧ a_logterm = b_logterm ∧ a_commit = b_commit ∧ a_yes = b_yes ∧ Spec.eqEs a_es b_es = true ∧ Spec.eqSn a_s_index a_s_term a_s_conf a_s_data b_s_index b_s_term b_s_conf b_s_data = true)) = false := by rw [Bool.eq_iff_iff]; simp_all
        exact ⟨.bool false, rfl, by first | (rw [hres]; done) | rw [← hres], hx41⟩
    ·
      have hb15 := ne_of_beq_false hb15
      refine st_skip rfl rfl rfl ?_
      refine st_skip rfl rfl rfl ?_
      refine st_skip rfl rfl rfl ?_
      refine st_skip rfl rfl rfl ?_
      refine st_skip rfl rfl rfl ?_
      refine st_op (ev_pickF rfl rfl) rfl rfl rfl ?_
      refine st_op (ev_move rfl) rfl rfl rfl ?_
      refine st_skip rfl rfl rfl ?_
      refine st_skip rfl rfl rfl ?_
      refine st_skip rfl rfl rfl ?_
      refine st_skip rfl rfl rfl ?_
      refine st_skip rfl rfl rfl ?_
      refine st_op (ev_pickF rfl rfl) rfl rfl rfl ?_
      refine st_op (ev_move rfl) rfl rfl rfl ?_
      refine st_skip rfl rfl rfl ?_
      refine st_skip rfl rfl rfl ?_
      refine st_skip rfl rfl rfl ?_
      refine st_skip rfl rfl rfl ?_
      refine st_skip rfl rfl rfl ?_
      refine st_op (ev_pickF rfl rfl) rfl rfl rfl ?_
      refine st_op (ev_move rfl) rfl rfl rfl ?_
      refine st_skip rfl rfl rfl ?_
      refine st_skip rfl rfl rfl ?_
      refine st_skip rfl rfl rfl ?_
      refine st_skip rfl rfl rfl ?_
      refine st_skip rfl rfl rfl ?_
      refine st_op (ev_pickF rfl rfl) rfl rfl rfl ?_
      refine st_op (ev_move rfl) rfl rfl rfl ?_
      refine st_skip rfl rfl rfl ?_
      refine st_skip rfl rfl rfl ?_
      refine st_skip rfl rfl rfl ?_
      refine st_skip rfl rfl rfl ?_
      refine st_skip rfl rfl rfl ?_
      refine st_op (ev_pickF rfl rfl) rfl rfl rfl ?_
      refine st_op (ev_move rfl) rfl rfl rfl ?_
      refine st_skip rfl rfl rfl ?_
      refine st_skip rfl rfl rfl ?_
      refine st_skip rfl rfl rfl ?_
      refine st_skip rfl rfl rfl ?_
      refine st_skip rfl rfl rfl ?_
      refine st_op (ev_pickF rfl rfl) rfl rfl rfl ?_
      refine st_op (ev_move rfl) rfl rfl rfl ?_
      refine st_skip rfl rfl rfl ?_
      refine st_skip rfl rfl rfl ?_
      refine st_skip rfl rfl rfl ?_
      refine st_skip rfl rfl rfl ?_
      refine st_skip rfl rfl rfl ?_
      refine st_op (ev_pickF rfl rfl) rfl rfl rfl ?_
      refine st_op (ev_move rfl) rfl rfl rfl ?_
      refine st_skip rfl rfl rfl ?_
      refine st_skip rfl rfl rfl ?_
      refine st_skip rfl rfl rfl ?_
      refine st_skip rfl rfl rfl ?_
      refine st_skip rfl rfl rfl ?_
      refine st_op (ev_pickF rfl rfl) rfl rfl rfl ?_
      refine st_op (ev_assign rfl) rfl rfl rfl ?_
      try show aw _ _ _ _ _ _
      refine aw_ret ?_
      have hx42 : Ext H H8 := (Ext.trans hx6 hx12)
      have hres : (decide (a_kind = b_kind ∧ a_from_ = b_from_ ∧ a_to_ = b_to_ ∧ a_term = b_term ∧ a_index = b_index ∧ a_logterm = b_logterm ∧ a_commit = b_commit ∧ a_yes = b_yes ∧ Spec.eqEs a_es b_es = true ∧ Spec.eqSn a_s_index a_s_term a_s_conf a_s_data b_s_index b_s_term b_s_conf b_s_data = true)) = false := by rw [Bool.eq_iff_iff]; simp_all
      exact ⟨.bool false, rfl, by first | (rw [hres]; done) | rw [← hres], hx42⟩
  ·
    have hb14 := ne_of_beq_false hb14
    refine st_skip rfl rfl rfl ?_
    refine st_skip rfl rfl rfl ?_
    refine st_skip rfl rfl rfl ?_
    refine st_skip rfl rfl rfl ?_
    refine st_skip rfl rfl rfl ?_
    refine st_op (ev_pickF rfl rfl) rfl rfl rfl ?_
    refine st_op (ev_move rfl) rfl rfl rfl ?_
    refine st_skip rfl rfl rfl ?_
    refine st_skip rfl rfl rfl ?_
    refine st_skip rfl rfl rfl ?_
    refine st_skip rfl rfl rfl ?_
    refine st_skip rfl rfl rfl ?_
    refine st_op (ev_pickF rfl rfl) rfl rfl rfl ?_
    refine st_op (ev_move rfl) rfl rfl rfl ?_
    refine st_skip rfl rfl rfl ?_
    refine st_skip rfl rfl rfl ?_
    refine st_skip rfl rfl rfl ?_
    refine st_skip rfl rfl rfl ?_
    refine st_skip rfl rfl rfl ?_
    refine st_op (ev_pickF rfl rfl) rfl rfl rfl ?_
    refine st_op (ev_move rfl) rfl rfl rfl ?_
    refine st_skip rfl rfl rfl ?_
    refine st_skip rfl rfl rfl ?_
    refine st_skip rfl rfl rfl ?_
    refine st_skip rfl rfl rfl ?_
    refine st_skip rfl rfl rfl ?_
    refine st_op (ev_pickF rfl rfl) rfl rfl rfl ?_
    refine st_op (ev_move rfl) rfl rfl rfl ?_
    refine st_skip rfl rfl rfl ?_
    refine st_skip rfl rfl rfl ?_
    refine st_skip rfl rfl rfl ?_
    refine st_skip rfl rfl rfl ?_
    refine st_skip rfl rfl rfl ?_
    refine st_op (ev_pickF rfl rfl) rfl rfl rfl ?_
    refine st_op (ev_move rfl) rfl rfl rfl ?_
    refine st_skip rfl rfl rfl ?_
    refine st_skip rfl rfl rfl ?_
    refine st_skip rfl rfl rfl ?_
    refine st_skip rfl rfl rfl ?_
    refine st_skip rfl rfl rfl ?_
    refine st_op (ev_pickF rfl rfl) rfl rfl rfl ?_
    refine st_op (ev_move rfl) rfl rfl rfl ?_
    refine st_skip rfl rfl rfl ?_
    refine st_skip rfl rfl rfl ?_
    refine st_skip rfl rfl rfl ?_
    refine st_skip rfl rfl rfl ?_
    refine st_skip rfl rfl rfl ?_
    refine st_op (ev_pickF rfl rfl) rfl rfl rfl ?_
    refine st_op (ev_move rfl) rfl rfl rfl ?_
    refine st_skip rfl rfl rfl ?_
    refine st_skip rfl rfl rfl ?_
    refine st_skip rfl rfl rfl ?_
    refine st_skip rfl rfl rfl ?_
    refine st_skip rfl rfl rfl ?_
    refine st_op (ev_pickF rfl rfl) rfl rfl rfl ?_
    refine st_op (ev_move rfl) rfl rfl rfl ?_
    refine st_skip rfl rfl rfl ?_
    refine st_skip rfl rfl rfl ?_
    refine st_skip rfl rfl rfl ?_
    refine st_skip rfl rfl rfl ?_
    refine st_skip rfl rfl rfl ?_
    refine st_op (ev_pickF rfl rfl) rfl rfl rfl ?_
    refine st_op (ev_assign rfl) rfl rfl rfl ?_
    try show aw _ _ _ _ _ _
    refine aw_ret ?_
    have hx43 : Ext H H8 := (Ext.trans hx6 hx12)
    have hres : (decide (a_kind = b_kind ∧ a_from_ = b_from_ ∧ a_to_ = b_to_ ∧ a_term = b_term ∧ a_index = b_index ∧ a_logterm = b_logterm ∧ a_commit = b_commit ∧ a_yes = b_yes ∧ Spec.eqEs a_es b_es = true ∧ Spec.eqSn a_s_index a_s_term a_s_conf a_s_data b_s_index b_s_term b_s_conf b_s_data = true)) = false := by rw [Bool.eq_iff_iff]; simp_all
    exact ⟨.bool false, rfl, by first | (rw [hres]; done) | rw [← hres], hx43⟩
theorem sl_DeleteM_spec (H : Heap) (lH : Heap) (lA : Option Addr) (l : List MsgC) (lc : Nat) (hl : My lH H lA lc 13 (l.map MsgC.cells)) (nl : lH.next ≤ H.next) (ll : l.length ≤ 1073741824) (lE : Heap) (el : Each MsgC.sub lE H l) (nel : lE.next ≤ H.next) (i : Int) (hi : 0 ≤ i ∧ i ≤ 1073741824) (ui : i < (l.length : Int)) (j : Int) (hj : 0 ≤ j ∧ j ≤ 1073741824) (uj : i ≤ j ∧ j ≤ (l.length : Int)) : ∃ v H', Spec Try.prog 57 [.slice lA l.length lc, .int .i64 i, .int .i64 j] H v H' ∧ (∃ rA0 rc0, (v = .slice rA0 ((l.take i.toNat ++ l.drop j.toNat).length) rc0) ∧ (My lH H' rA0 rc0 13 ((l.take i.toNat ++ l.drop j.toNat).map MsgC.cells)) ∧ (Each MsgC.sub lE H' (l.take i.toNat ++ l.drop j.toNat)) ∧ (Fr (fun q => (lH.next ≤ q ∧ q < H.next ∧ ZB H q 13)) H H')) := by
  refine spec_go3 E0_ok 33 (f := 57) Try.func57 rfl rfl rfl ?_
  refine aw_seq ?_
  refine aw_reg ?_
  refine st_op (ev_assign rfl) rfl rfl rfl ?_
  try show aw _ _ _ _ _ _
  refine aw_seq ?_
  refine aw_reg ?_
  refine st_op (ev_move rfl) rfl rfl rfl ?_
  refine st_op (ev_move rfl) rfl rfl rfl ?_
  refine st_op (ev_move rfl) rfl rfl rfl ?_
  refine st_op (ev_move rfl) rfl rfl rfl ?_
  refine st_op (ev_lenSl rfl Try.underlying71) rfl rfl rfl ?_
  obtain ⟨A9, c10, hs11⟩ := sliceA_mx MsgC.cells el71 (by decide) hl (k1 := .i64) (k2 := .i64) (k3 := .i64) (i := i) (j := j) (k := (l.length : Int)) (by first | omega | (simp only [List.length_append, List.length_cons, List.length_nil, List.length_map, List.length_set, List.length_replicate, Spec.bytesOf_length]; omega) | (simp; omega)) (by first | omega | (simp only [List.length_append, List.length_cons, List.length_nil, List.length_map, List.length_set, List.length_replicate, Spec.bytesOf_length]; omega) | (simp; omega)) (by first | omega | (simp only [List.length_append, List.length_cons, List.length_nil, List.length_map, List.length_set, List.length_replicate, Spec.bytesOf_length]; omega) | (simp; omega)) (by first | omega | (simp only [List.length_append, List.length_cons, List.length_nil, List.length_map, List.length_set, List.length_replicate, Spec.bytesOf_length]; omega) | (simp; omega)) (by first | omega | (simp only [List.length_append, List.length_cons, List.length_nil, List.length_map, List.length_set, List.length_replicate, Spec.bytesOf_length]; omega) | (simp; omega))
  refine st_op (ev_slice rfl rfl rfl rfl hs11) rfl rfl rfl ?_
  try show aw _ _ _ _ _ _
  refine aw_seq ?_
  refine aw_seq ?_
  refine aw_reg ?_
  refine st_op (ev_move rfl) rfl rfl rfl ?_
  refine st_op (ev_move rfl) rfl rfl rfl ?_
  refine st_op (ev_int rfl rfl rfl) rfl rfl rfl ?_
  try show aw _ _ _ _ _ _
  by_cases hc12 : (i == j) = true
  · refine aw_condT hc12 rfl ?_
    try show aw _ _ _ _ _ _
    have hc12 := eq_of_beq hc12
    refine aw_seq ?_
    refine aw_reg ?_
    refine st_op (ev_move rfl) rfl rfl rfl ?_
    refine st_op (ev_assign rfl) rfl rfl rfl ?_
    try show aw _ _ _ _ _ _
    refine aw_ret ?_
    have hres : (l.take i.toNat ++ l.drop j.toNat) = l := by rw [show i = j by omega, List.take_append_drop]
    exact ⟨.slice lA l.length lc, rfl, lA, lc, by first | (rw [hres]; first | done | rfl | simp; done) | rfl, (by rw [hres]; exact hl), (by rw [hres]; exact (Each.sub el (fun _ h => by first | exact h | exact mem_del h))), (Fr.refl (fun q => (lH.next ≤ q ∧ q < H.next ∧ ZB H q 13)) H)⟩
  · rw [Bool.not_eq_true] at hc12; refine aw_condF hc12 rfl ?_
    try show aw _ _ _ _ _ _
    have hc12 := ne_of_beq_false hc12
    refine aw_skip ?_
    try show aw _ _ _ _ _ _
    refine aw_seq ?_
    refine aw_reg ?_
    refine st_op (ev_move rfl) rfl rfl rfl ?_
    refine st_op (ev_lenSl rfl Try.underlying71) rfl rfl rfl ?_
    refine st_op (ev_assign rfl) rfl rfl rfl ?_
    try show aw _ _ _ _ _ _
    refine aw_seq ?_
    refine aw_marks (fun b => b < H.next) [(false, false), (false, false), (false, false), (false, false), (false, false), (false, false), (false, false), (false, false)] mixed (by kernel_rfl) (by kernel_rfl) ?_
    refine sm_op (ev_move rfl) rfl rfl rfl ?_
    refine sm_op (ev_move rfl) rfl rfl rfl ?_
    obtain ⟨A13, c14, L15, hL16, hl17, hs18, hr19⟩ := sliceA_my MsgC.cells el71 (by decide) hl (by first | omega | (simp only [List.length_append, List.length_cons, List.length_nil, List.length_map, List.length_set, List.length_replicate, Spec.bytesOf_length]; omega) | (simp; omega)) (lo := none) (hi := some (.int .i64 i)) (p := 0) (q := (i).toNat) (by rw [Option.isSome_some, if_pos rfl]; exact bound_int (by first | omega | (simp only [List.length_append, List.length_cons, List.length_nil, List.length_map, List.length_set, List.length_replicate, Spec.bytesOf_length]; omega) | (simp; omega)) (by first | omega | (simp only [List.length_append, List.length_cons, List.length_nil, List.length_map, List.length_set, List.length_replicate, Spec.bytesOf_length]; omega) | (simp; omega)) (by first | rfl | omega)) rfl (by first | omega | (simp only [List.length_append, List.length_cons, List.length_nil, List.length_map, List.length_set, List.length_replicate, Spec.bytesOf_length]; omega) | (simp; omega)) (by first | omega | (simp only [List.length_append, List.length_cons, List.length_nil, List.length_map, List.length_set, List.length_replicate, Spec.bytesOf_length]; omega) | (simp; omega)) (.inr ⟨_, _, rfl⟩)
    refine sm_op (ev_slice rfl rfl rfl rfl hs18) rfl rfl rfl ?_
    have hE21 : Each MsgC.sub lE H L15 := Each.sub el (fun _ hx => mem_cut hL16 hx)
    refine sm_op (ev_move rfl) rfl rfl rfl ?_
    refine sm_op (ev_move rfl) rfl rfl rfl ?_
    obtain ⟨A22, c23, L24, hL25, hl26, hs27, hr28⟩ := sliceA_my MsgC.cells el71 (by decide) hl (by first | omega | (simp only [List.length_append, List.length_cons, List.length_nil, List.length_map, List.length_set, List.length_replicate, Spec.bytesOf_length]; omega) | (simp; omega)) (lo := some (.int .i64 j)) (hi := none) (p := (j).toNat) (q := l.length) rfl (bound_int (by first | omega | (simp only [List.length_append, List.length_cons, List.length_nil, List.length_map, List.length_set, List.length_replicate, Spec.bytesOf_length]; omega) | (simp; omega)) (by first | omega | (simp only [List.length_append, List.length_cons, List.length_nil, List.length_map, List.length_set, List.length_replicate, Spec.bytesOf_length]; omega) | (simp; omega)) (by first | rfl | omega)) (by first | omega | (simp only [List.length_append, List.length_cons, List.length_nil, List.length_map, List.length_set, List.length_replicate, Spec.bytesOf_length]; omega) | (simp; omega)) (by first | omega | (simp only [List.length_append, List.length_cons, List.length_nil, List.length_map, List.length_set, List.length_replicate, Spec.bytesOf_length]; omega) | (simp; omega)) (.inl rfl)
    refine sm_op (ev_slice rfl rfl rfl rfl hs27) rfl rfl rfl ?_
    have hE30 : Each MsgC.sub lE H L24 := Each.sub el (fun _ hx => mem_cut hL25 hx)
    obtain ⟨H31, W32, he33, hm34, hf35, H31n_⟩ := mem_delete (i := (i).toNat) (j := (j).toNat) eok71 el71 (by decide) MsgC.cells_one hl hl hs18 (by first | omega | (simp only [List.length_append, List.length_cons, List.length_nil, List.length_map, List.length_set, List.length_replicate, Spec.bytesOf_length]; omega) | (simp; omega)) hs27 ⟨_, _, rfl, by first | rfl | simp⟩ (by first | omega | (simp only [List.length_append, List.length_cons, List.length_nil, List.length_map, List.length_set, List.length_replicate, Spec.bytesOf_length]; omega) | (simp; omega)) (by first | omega | (simp only [List.length_append, List.length_cons, List.length_nil, List.length_map, List.length_set, List.length_replicate, Spec.bytesOf_length]; omega) | (simp; omega)) (by first | omega | (simp only [List.length_append, List.length_cons, List.length_nil, List.length_map, List.length_set, List.length_replicate, Spec.bytesOf_length]; omega) | (simp; omega)) (by first | omega | (simp only [List.length_append, List.length_cons, List.length_nil, List.length_map, List.length_set, List.length_replicate, Spec.bytesOf_length]; omega) | (simp; omega)) (by first | omega | (simp only [List.length_append, List.length_cons, List.length_nil, List.length_map, List.length_set, List.length_replicate, Spec.bytesOf_length]; omega) | (simp; omega)) (by first | omega | (simp only [List.length_append, List.length_cons, List.length_nil, List.length_map, List.length_set, List.length_replicate, Spec.bytesOf_length]; omega) | (simp; omega))
    refine sm_op (he33 _ _ _ _ _ _ _ _ _ _ rfl rfl isrow71) rfl rfl rfl ?_
    have H31n : H.next ≤ H31.next := hf35.1
    have hm36 : My lH H31 lA lc 13 ((l.take ((i).toNat) ++ l.drop ((j).toNat)).map MsgC.cells) := My.prefix (by rw [← List.map_append]; exact hm34)
    have hl37 : (l.take ((i).toNat) ++ l.drop ((j).toNat) ++ l.drop ((i).toNat + (l.length - (j).toNat))).length = l.length ∧ (l.take ((i).toNat) ++ l.drop ((j).toNat)).length = (i).toNat + (l.length - (j).toNat) := by constructor <;> (simp only [List.length_append, List.length_take, List.length_drop]; omega)
    refine sm_op (ev_assign rfl) rfl rfl rfl ?_
    try show aw _ _ _ _ _ _
    refine aw_seq ?_
    refine aw_reg ?_
    refine st_op (ev_move rfl) rfl rfl rfl ?_
    refine st_op (ev_move rfl) rfl rfl rfl ?_
    refine st_op (ev_lenSl rfl Try.underlying71) rfl rfl rfl ?_
    refine st_op (ev_move rfl) rfl rfl rfl ?_
    obtain ⟨A46, c47, L48, hL49, hl50, hs51, hr52⟩ := sliceA_my MsgC.cells el71 (by decide) hm34 (by first | omega | (simp only [List.length_append, List.length_cons, List.length_nil, List.length_map, List.length_set, List.length_replicate, Spec.bytesOf_length]; omega) | (simp; omega)) (lo := some (.int .i64 ((l.take ((i).toNat) ++ l.drop ((j).toNat)).length : Int))) (hi := some (.int .i64 (l.length : Int))) (p := (((l.take ((i).toNat) ++ l.drop ((j).toNat)).length : Int)).toNat) (q := ((l.length : Int)).toNat) (by rw [Option.isSome_some, if_pos rfl]; exact bound_int (by first | omega | (simp only [List.length_append, List.length_cons, List.length_nil, List.length_map, List.length_set, List.length_replicate, Spec.bytesOf_length]; omega) | (simp; omega)) (by first | omega | (simp only [List.length_append, List.length_cons, List.length_nil, List.length_map, List.length_set, List.length_replicate, Spec.bytesOf_length]; omega) | (simp; omega)) (by first | rfl | omega)) (bound_int (by first | omega | (simp only [List.length_append, List.length_cons, List.length_nil, List.length_map, List.length_set, List.length_replicate, Spec.bytesOf_length]; omega) | (simp; omega)) (by first | omega | (simp only [List.length_append, List.length_cons, List.length_nil, List.length_map, List.length_set, List.length_replicate, Spec.bytesOf_length]; omega) | (simp; omega)) (by first | rfl | omega)) (by first | omega | (simp only [List.length_append, List.length_cons, List.length_nil, List.length_map, List.length_set, List.length_replicate, Spec.bytesOf_length]; omega) | (simp; omega)) (by first | omega | (simp only [List.length_append, List.length_cons, List.length_nil, List.length_map, List.length_set, List.length_replicate, Spec.bytesOf_length]; omega) | (simp; omega)) (.inr ⟨_, _, rfl⟩)
    have hs53 := sliceX_my (m := (l.take ((i).toNat) ++ l.drop ((j).toNat)).length) el71 (by decide) hm34 rfl (by first | omega | (simp only [List.length_append, List.length_cons, List.length_nil, List.length_map, List.length_set, List.length_replicate, Spec.bytesOf_length]; omega) | (simp; omega)) (by first | omega | (simp only [List.length_append, List.length_cons, List.length_nil, List.length_map, List.length_set, List.length_replicate, Spec.bytesOf_length]; omega) | (simp; omega)) (by first | omega | (simp only [List.length_append, List.length_cons, List.length_nil, List.length_map, List.length_set, List.length_replicate, Spec.bytesOf_length]; omega) | (simp; omega)) hs51
    refine st_op (ev_sliceX rfl rfl rfl rfl hs53) rfl rfl rfl ?_
    obtain ⟨H54, W55, he56, hm57, hf58, H54n_⟩ := mem_clear (e0 := ((⟨0, 0, 0, 0, 0, 0, 0, false, ([] : List Entry), none, 0, (⟨0, 0, (⟨#[]⟩ : ByteArray), (⟨#[]⟩ : ByteArray)⟩ : Snap)⟩ : MsgC) : MsgC)) (p := (((l.take ((i).toNat) ++ l.drop ((j).toNat)).length : Int)).toNat) eok71 el71 zero26 rfl hm34 hm34 hs51 (.inr ⟨_, _, rfl, by first | rfl | simp⟩) (by first | omega | (simp only [List.length_append, List.length_cons, List.length_nil, List.length_map, List.length_set, List.length_replicate, Spec.bytesOf_length]; omega) | (simp; omega))
    refine st_op0 (he56 _ _ _ _ _ _ _ _ rfl) rfl rfl ?_
    have H54n : H31.next ≤ H54.next := hf58.1
    have hm59 : My lH H54 lA lc 13 ((l.take ((i).toNat) ++ l.drop ((j).toNat)).map MsgC.cells) := My.cutTo hm57 (by exact cut_front rfl (by first | omega | simp))
    try show aw _ _ _ _ _ _
    refine aw_seq ?_
    refine aw_reg ?_
    refine st_op (ev_move rfl) rfl rfl rfl ?_
    refine st_op (ev_assign rfl) rfl rfl rfl ?_
    try show aw _ _ _ _ _ _
    refine aw_ret ?_
    have h60 := Each.frS el hf35 (fun q hq e => (ZB.ne e.2.2 (show (13 : Nat) ≠ 4 by decide)))
    have h61 := Each.frS h60 hf58 (fun q hq e => (ZB.ne e.2.2 (show (13 : Nat) ≠ 4 by decide)))
    have hres : (l.take i.toNat ++ l.drop j.toNat) = (l.take ((i).toNat) ++ l.drop ((j).toNat)) := by rfl
    exact ⟨.slice lA ((l.take ((i).toNat) ++ l.drop ((j).toNat)).length) lc, rfl, lA, lc, by first | (rw [hres]; first | done | rfl | simp; done) | rfl, (by rw [hres]; exact hm59), (by rw [hres]; exact (Each.sub h61 (fun _ h => by first | exact h | exact mem_del h))), (Fr.transG (Fr.transG (Fr.refl (fun q => (lH.next ≤ q ∧ q < H.next ∧ ZB H q 13)) H) hf35 (fun q hq hE e => (⟨by omega, by omega, ZB.back hE e.2.2⟩))) hf58 (fun q hq hE e => (⟨by omega, by omega, ZB.back hE e.2.2⟩)))⟩
theorem net_Drop_spec (H : Heap) (lH : Heap) (lA : Option Addr) (l : List MsgC) (lc : Nat) (hl : My lH H lA lc 13 (l.map MsgC.cells)) (nl : lH.next ≤ H.next) (ll : l.length ≤ 400) (bl : Spec.Short l) (lE : Heap) (el : Each MsgC.sub lE H l) (nel : lE.next ≤ H.next) (n : Nat) (hn : n < H.next) (Bn : H.blk n = some ⟨[.slice lA l.length lc], 0, false, false⟩) (i : Int) (hi : -9223372036854775808 ≤ i ∧ i ≤ 9223372036854775807) : ∃ v H', Spec Try.prog 38 [.pointer (some ⟨n, 0, none⟩), .int .i64 i] H v H' ∧ (∃ rA1 rc1, ∃ rl1 : List MsgC, (v = .bool ((Spec.dropF (l.map MsgC.val) i).1)) ∧ (rl1.map MsgC.val = ((Spec.dropF (l.map MsgC.val) i).2)) ∧ (My lH H' rA1 rc1 13 (rl1.map MsgC.cells)) ∧ (Each MsgC.sub lE H' rl1) ∧ (H'.blk n = some ⟨[.slice rA1 rl1.length rc1], 0, false, false⟩) ∧ (Spec.Short rl1) ∧ ((Spec.dropF (l.map MsgC.val) i).2.length ≤ l.length) ∧ (Fr (fun q => q = n ∨ (lH.next ≤ q ∧ q < H.next ∧ ZB H q 13)) H H')) := by
  refine spec_go2 E0_ok 24 (f := 38) Try.func38 rfl rfl rfl ?_
  refine aw_seq ?_
  refine aw_reg ?_
  refine st_op (ev_assign rfl) rfl rfl rfl ?_
  try show aw _ _ _ _ _ _
  refine aw_seq ?_
  refine aw_seq ?_
  refine aw_reg ?_
  refine st_op (ev_move rfl) rfl rfl rfl ?_
  refine st_op (ev_int rfl rfl rfl) rfl rfl rfl ?_
  refine st_op (ev_move rfl) rfl rfl rfl ?_
  refine st_bool 7 rfl (fun hb1 => ?_) (fun hb1 => ?_)
  ·
    have hb1 := of_decide_eq_true hb1
    refine st_skip rfl rfl rfl ?_
    refine st_skip rfl rfl rfl ?_
    refine st_skip rfl rfl rfl ?_
    refine st_skip rfl rfl rfl ?_
    refine st_op (ev_pickT rfl rfl) rfl rfl rfl ?_
    try show aw _ _ _ _ _ _
    refine aw_cond (t := true) rfl ?_
    try show aw _ _ _ _ _ _
    refine aw_seq ?_
    refine aw_reg ?_
    refine st_op (ev_assign rfl) rfl rfl rfl ?_
    try show aw _ _ _ _ _ _
    refine aw_ret ?_
    have hres : (Spec.dropF (l.map MsgC.val) i) = (false, (l.map MsgC.val)) := by exact Spec.drop_out (by omega)
    exact ⟨.bool false, rfl, lA, lc, l, by first | (rw [hres]; first | done | rfl | simp; done) | rfl, (by (rw [hres]) <;> rfl), (by first | exact hl | (rw [hres]; exact hl)), (by first | exact el | (rw [hres]; exact el)), (by first | exact Bn | (rw [hres]; exact Bn)), (by first | exact bl | exact Spec.short_sub bl (fun _ h => mem_del h)), (by exact Nat.le_trans Spec.drop_le (by rw [List.length_map]; exact Nat.le_refl _)), (Fr.refl (fun q => q = n ∨ (lH.next ≤ q ∧ q < H.next ∧ ZB H q 13)) H)⟩
  ·
    have hb1 := of_decide_eq_false hb1
    refine st_op (ev_move rfl) rfl rfl rfl ?_
    refine st_op (ev_move rfl) rfl rfl rfl ?_
    refine st_call rfl rfl rfl ent18 rfl rfl rfl ?_
    obtain ⟨_, H3, hs2, hs2v, hx4⟩ := net_Len_spec H lH lA l lc hl (by omega) (by first | omega | (simp only [List.length_append, List.length_cons, List.length_nil, List.length_map, List.length_set, List.length_replicate, Spec.bytesOf_length]; omega) | (simp; omega)) (by first | assumption | omega | decide | (simp_all; done)) lE el (by omega) n (by omega) Bn
    rw [hs2v] at hs2; clear hs2v
    refine ⟨_, H3, hs2, ?_⟩
    have H3n : H.next ≤ H3.next := hx4.1
    refine st_op (ev_int rfl rfl rfl) rfl rfl rfl ?_
    refine st_op (ev_pickF rfl rfl) rfl rfl rfl ?_
    try show aw _ _ _ _ _ _
    by_cases hc5 : (decide (i ≥ (l.length : Int))) = true
    · refine aw_condT hc5 rfl ?_
      try show aw _ _ _ _ _ _
      have hc5 := of_decide_eq_true hc5
      refine aw_seq ?_
      refine aw_reg ?_
      refine st_op (ev_assign rfl) rfl rfl rfl ?_
      try show aw _ _ _ _ _ _
      refine aw_ret ?_
      have h6 := My.ext hl hx4
      have h7 := Each.ext el hx4
      have h8 := Ext.blk hx4 (by omega) Bn
      have hres : (Spec.dropF (l.map MsgC.val) i) = (false, (l.map MsgC.val)) := by exact Spec.drop_out (by omega)
      exact ⟨.bool false, rfl, lA, lc, l, by first | (rw [hres]; first | done | rfl | simp; done) | rfl, (by (rw [hres]) <;> rfl), (by first | exact h6 | (rw [hres]; exact h6)), (by first | exact h7 | (rw [hres]; exact h7)), (by first | exact h8 | (rw [hres]; exact h8)), (by first | exact bl | exact Spec.short_sub bl (fun _ h => mem_del h)), (by exact Nat.le_trans Spec.drop_le (by rw [List.length_map]; exact Nat.le_refl _)), (Fr.trans (Fr.refl (fun q => q = n ∨ (lH.next ≤ q ∧ q < H.next ∧ ZB H q 13)) H) (hx4.fr fun _ => False) (fun q hq (e : False) => e.elim))⟩
    · rw [Bool.not_eq_true] at hc5; refine aw_condF hc5 rfl ?_
      try show aw _ _ _ _ _ _
      have hc5 := of_decide_eq_false hc5
      refine aw_skip ?_
      try show aw _ _ _ _ _ _
      refine aw_seq ?_
      refine aw_reg ?_
      refine st_op (ev_move rfl) rfl rfl rfl ?_
      refine st_op (ev_move rfl) rfl rfl rfl ?_
      refine st_op (ev_nilCheck rfl) rfl rfl rfl ?_
      refine st_op (ev_fieldAddr rfl fa73_0 (o' := 0) rfl) rfl rfl rfl ?_
      have h9 := Ext.blk hx4 (by omega) Bn
      refine st_op (ev_load rfl (lvar_one one71 h9 rfl)) rfl rfl rfl ?_
      refine st_op (ev_move rfl) rfl rfl rfl ?_
      refine st_op (ev_move rfl) rfl rfl rfl ?_
      refine st_op (ev_int64 (c := i + 1) rfl rfl rfl (by omega) (by omega)) rfl rfl rfl ?_
      refine st_call rfl rfl rfl ent57 rfl rfl rfl ?_
      have h10 := Each.ext el hx4
      have h11 := My.ext hl hx4
      obtain ⟨_, H13, hs12, A15, c16, hs12v, hm17, hE18, hx14⟩ := sl_DeleteM_spec H3 lH lA l lc h11 (by omega) (by first | omega | (simp only [List.length_append, List.length_cons, List.length_nil, List.length_map, List.length_set, List.length_replicate, Spec.bytesOf_length]; omega) | (simp; omega)) lE h10 (by omega) i ⟨by omega, by omega⟩ (by first | omega | (simp only [List.length_append, List.length_cons, List.length_nil, List.length_map, List.length_set, List.length_replicate, Spec.bytesOf_length]; omega) | (simp; omega)) (i + 1) ⟨by omega, by omega⟩ (by first | omega | (simp only [List.length_append, List.length_cons, List.length_nil, List.length_map, List.length_set, List.length_replicate, Spec.bytesOf_length]; omega) | (simp; omega))
      rw [hs12v] at hs12; clear hs12v
      refine ⟨_, H13, hs12, ?_⟩
      have H13n : H3.next ≤ H13.next := hx14.1
      refine st_op (ev_nilCheck rfl) rfl rfl rfl ?_
      refine st_op (ev_fieldAddr rfl fa73_0 (o' := 0) rfl) rfl rfl rfl ?_
      have h19 := Fr.blk hx14 (by omega) (fun e => (zb_ne h9 e.2.2 (show (0 : Nat) ≠ 13 by decide))) h9
      obtain ⟨H20, he21, H20n_, hB22, f23⟩ := mem_store (v := .slice A15 ((l.take i.toNat ++ l.drop (i + 1).toNat).length) c16) (o := 0) (cs' := [.slice A15 ((l.take i.toNat ++ l.drop (i + 1).toNat).length) c16]) 1 rfl rfl size71 h19 rfl rfl rfl
      refine st_op0 (he21 _ _ _ _ _ _ _ _ _ rfl rfl) rfl rfl ?_
      have hf24 : Fr (fun q => q = n) H13 H20 := Fr.write H20n_ f23
      have H20n : H13.next ≤ H20.next := hf24.1
      try show aw _ _ _ _ _ _
      refine aw_seq ?_
      refine aw_reg ?_
      refine st_op (ev_assign rfl) rfl rfl rfl ?_
      try show aw _ _ _ _ _ _
      refine aw_ret ?_
      have h25 := My.frS hm17 hf24 (fun q hq e => ⟨_, e ▸ h19, show (0 : Nat) ≠ 13 by decide⟩)
      have h26 := Each.frS hE18 hf24 (fun q hq e => ⟨_, e ▸ h19, show (0 : Nat) ≠ 4 by decide⟩)
      have hres : (Spec.dropF (l.map MsgC.val) i) = (true, ((l.take i.toNat ++ l.drop (i + 1).toNat).map MsgC.val)) := by rw [Spec.drop_in (by omega) (by omega)]
      exact ⟨.bool true, rfl, A15, c16, (l.take i.toNat ++ l.drop (i + 1).toNat), by first | (rw [hres]; first | done | rfl | simp; done) | rfl, (by (rw [hres]) <;> rfl), (by first | exact h25 | (rw [hres]; exact h25)), (by first | exact h26 | (rw [hres]; exact h26)), (by first | exact hB22 | (rw [hres]; exact hB22)), (by first | exact bl | exact Spec.short_sub bl (fun _ h => mem_del h)), (by exact Nat.le_trans Spec.drop_le (by rw [List.length_map]; exact Nat.le_refl _)), (Fr.transG (Fr.transG (Fr.trans (Fr.refl (fun q => q = n ∨ (lH.next ≤ q ∧ q < H.next ∧ ZB H q 13)) H) (hx4.fr fun _ => False) (fun q hq (e : False) => e.elim)) hx14 (fun q hq hE e => Or.inr ((⟨by omega, by omega, ZB.back hE e.2.2⟩)))) hf24 (fun q hq hE e => Or.inl (e)))⟩
theorem net_Take_spec (H : Heap) (lH : Heap) (lA : Option Addr) (l : List MsgC) (lc : Nat) (hl : My lH H lA lc 13 (l.map MsgC.cells)) (nl : lH.next ≤ H.next) (ll : l.length ≤ 400) (bl : Spec.Short l) (lE : Heap) (el : Each MsgC.sub lE H l) (nel : lE.next ≤ H.next) (n : Nat) (hn : n < H.next) (Bn : H.blk n = some ⟨[.slice lA l.length lc], 0, false, false⟩) (i : Int) (hi : -9223372036854775808 ≤ i ∧ i ≤ 9223372036854775807) : ∃ v H', Spec Try.prog 20 [.pointer (some ⟨n, 0, none⟩), .int .i64 i] H v H' ∧ (∃ rA8 rc8, ∃ rA14 rc14, ∃ rl14 : List MsgC, (v = .tuple #[.agg #[.int .i64 ((Spec.takeT (l.map MsgC.val) i).1), .int .i64 ((Spec.takeT (l.map MsgC.val) i).2.1), .int .i64 ((Spec.takeT (l.map MsgC.val) i).2.2.1), .int .i64 ((Spec.takeT (l.map MsgC.val) i).2.2.2.1), .int .i64 ((Spec.takeT (l.map MsgC.val) i).2.2.2.2.1), .int .i64 ((Spec.takeT (l.map MsgC.val) i).2.2.2.2.2.1), .int .i64 ((Spec.takeT (l.map MsgC.val) i).2.2.2.2.2.2.1), .bool ((Spec.takeT (l.map MsgC.val) i).2.2.2.2.2.2.2.1), .slice rA8 (((Spec.takeT (l.map MsgC.val) i).2.2.2.2.2.2.2.2.1).length) rc8, .int .i64 ((Spec.takeT (l.map MsgC.val) i).2.2.2.2.2.2.2.2.2.1), .int .i64 ((Spec.takeT (l.map MsgC.val) i).2.2.2.2.2.2.2.2.2.2.1), .string ((Spec.takeT (l.map MsgC.val) i).2.2.2.2.2.2.2.2.2.2.2.1), .string ((Spec.takeT (l.map MsgC.val) i).2.2.2.2.2.2.2.2.2.2.2.2.1)], .bool ((Spec.takeT (l.map MsgC.val) i).2.2.2.2.2.2.2.2.2.2.2.2.2.1)]) ∧ (My H H' rA8 rc8 4 (((Spec.takeT (l.map MsgC.val) i).2.2.2.2.2.2.2.2.1).map Entry.cells)) ∧ (rl14.map MsgC.val = ((Spec.takeT (l.map MsgC.val) i).2.2.2.2.2.2.2.2.2.2.2.2.2.2)) ∧ (My lH H' rA14 rc14 13 (rl14.map MsgC.cells)) ∧ (Each MsgC.sub lE H' rl14) ∧ (H'.blk n = some ⟨[.slice rA14 rl14.length rc14], 0, false, false⟩) ∧ (Spec.Short rl14) ∧ (Fr (fun q => q = n ∨ (lH.next ≤ q ∧ q < H.next ∧ ZB H q 13)) H H')) := by
  refine spec_go2 E0_ok 19 (f := 20) Try.func20 rfl rfl rfl ?_
  refine aw_seq ?_
  refine aw_reg ?_
  obtain ⟨b1, H2, he3, b1e, H2n_, hB5, f4⟩ := mem_alloc H zero26
  refine st_op (he3 _ _ _ _ _ _ _) rfl rfl rfl ?_
  have hx6 : Ext H H2 := Ext.new (by omega) H2n_ f4
  have H2n : H.next ≤ H2.next := hx6.1
  refine st_op (ev_assign rfl) rfl rfl rfl ?_
  try show aw _ _ _ _ _ _
  refine aw_seq ?_
  refine aw_reg ?_
  refine st_op (ev_move rfl) rfl rfl rfl ?_
  refine st_op (ev_move rfl) rfl rfl rfl ?_
  refine st_call rfl rfl rfl ent19 rfl rfl rfl ?_
  have h7 := Each.ext el hx6
  have h8 := My.ext hl hx6
  have h9 := Ext.blk hx6 (by omega) Bn
  obtain ⟨_, H11, hs10, A13, c14, hs10v, hm15, hx12⟩ := net_Look_spec H2 lH lA l lc h8 (by omega) (by first | omega | (simp only [List.length_append, List.length_cons, List.length_nil, List.length_map, List.length_set, List.length_replicate, Spec.bytesOf_length]; omega) | (simp; omega)) (by first | assumption | omega | decide | (simp_all; done)) lE h7 (by omega) n (by omega) h9 i ⟨by omega, by omega⟩
  rw [hs10v] at hs10; clear hs10v
  generalize hR17 : (Spec.lookF (l.map MsgC.val) i) = r16 at hs10 hm15
  obtain ⟨z18, z19, z20, z21, z22, z23, z24, z25, z26, z27, z28, z29, z30, z31⟩ := r16
  dsimp only at hs10 hm15
  refine ⟨_, H11, hs10, ?_⟩
  have H11n : H2.next ≤ H11.next := hx12.1
  refine st_op (ev_move rfl) rfl rfl rfl ?_
  refine st_op (ev_extract rfl rfl) rfl rfl rfl ?_
  refine st_op (ev_extract rfl rfl) rfl rfl rfl ?_
  obtain ⟨b32, H33, he34, b32e, H33n_, hB36, f35⟩ := mem_alloc H11 zero26
  refine st_op (he34 _ _ _ _ _ _ _) rfl rfl rfl ?_
  have hx37 : Ext H11 H33 := Ext.new (by omega) H33n_ f35
  have H33n : H11.next ≤ H33.next := hx37.1
  obtain ⟨H38, he39, H38n_, hB40, f41⟩ := mem_store (v := .agg #[.int .i64 z18, .int .i64 z19, .int .i64 z20, .int .i64 z21, .int .i64 z22, .int .i64 z23, .int .i64 z24, .bool z25, .slice A13 z26.length c14, .int .i64 z27, .int .i64 z28, .string z29, .string z30]) (o := 0) (cs' := [.int .i64 z18, .int .i64 z19, .int .i64 z20, .int .i64 z21, .int .i64 z22, .int .i64 z23, .int .i64 z24, .bool z25, .slice A13 z26.length c14, .int .i64 z27, .int .i64 z28, .string z29, .string z30]) 13 rfl rfl size26 hB36 rfl rfl rfl
  refine st_op0 (he39 _ _ _ _ _ _ _ _ _ rfl rfl) rfl rfl ?_
  have hf42 : Fr (fun q => q = b32) H33 H38 := Fr.write H38n_ f41
  have H38n : H33.next ≤ H38.next := hf42.1
  refine st_op (ev_assign rfl) rfl rfl rfl ?_
  try show aw _ _ _ _ _ _
  refine aw_seq ?_
  refine aw_reg ?_
  refine st_op (ev_move rfl) rfl rfl rfl ?_
  refine st_op (ev_move rfl) rfl rfl rfl ?_
  refine st_call rfl rfl rfl ent38 rfl rfl rfl ?_
  have hx44 : Ext H2 H38 := (Ext.then (Ext.trans hx12 hx37) hf42 (fun q hq e => by omega))
  have h43 := Each.ext h7 hx44
  have h45 := My.ext h8 hx44
  have h46 := Ext.blk hx44 (by omega) h9
  obtain ⟨_, H48, hs47, A50, c51, rl53, hs47v, hl54, hm52, hE57, hB58, hq55, hq56, hx49⟩ := net_Drop_spec H38 lH lA l lc h45 (by omega) (by first | omega | (simp only [List.length_append, List.length_cons, List.length_nil, List.length_map, List.length_set, List.length_replicate, Spec.bytesOf_length]; omega) | (simp; omega)) (by first | assumption | omega | decide | (simp_all; done)) lE h43 (by omega) n (by omega) h46 i ⟨by omega, by omega⟩
  rw [hs47v] at hs47; clear hs47v
  generalize hR60 : (Spec.dropF (l.map MsgC.val) i) = r59 at hs47 hl54 hm52 hE57 hB58 hq55 hq56
  obtain ⟨z61, z62⟩ := r59
  dsimp only at hs47 hl54 hm52 hE57 hB58 hq55 hq56
  refine ⟨_, H48, hs47, ?_⟩
  have H48n : H38.next ≤ H48.next := hx49.1
  have hl54n := congrArg List.length hl54; rw [List.length_map] at hl54n
  try show aw _ _ _ _ _ _
  refine aw_seq ?_
  refine aw_reg ?_
  have h63 := Fr.blk hx49 (by omega) (fun e => Or.elim e (fun e => (by omega)) (fun e => (zb_ne hB40 e.2.2 (show (0 : Nat) ≠ 13 by decide)))) hB40
  refine st_op (ev_load rfl (lvar_part (l := [.int .i64 z18, .int .i64 z19, .int .i64 z20, .int .i64 z21, .int .i64 z22, .int .i64 z23, .int .i64 z24, .bool z25, .slice A13 z26.length c14, .int .i64 z27, .int .i64 z28, .string z29, .string z30]) many26 h63 rfl rfl (by decide))) rfl rfl rfl ?_
  refine st_op (ev_move rfl) rfl rfl rfl ?_
  have h64 := Ext.blk hx44 (by omega) hB5
  have h65 := Fr.blk hx49 (by omega) (fun e => Or.elim e (fun e => (by omega)) (fun e => (zb_ne h64 e.2.2 (show (0 : Nat) ≠ 13 by decide)))) h64
  obtain ⟨H66, he67, H66n_, hB68, f69⟩ := mem_store (v := .agg #[.int .i64 z18, .int .i64 z19, .int .i64 z20, .int .i64 z21, .int .i64 z22, .int .i64 z23, .int .i64 z24, .bool z25, .slice A13 z26.length c14, .int .i64 z27, .int .i64 z28, .string z29, .string z30]) (o := 0) (cs' := [.int .i64 z18, .int .i64 z19, .int .i64 z20, .int .i64 z21, .int .i64 z22, .int .i64 z23, .int .i64 z24, .bool z25, .slice A13 z26.length c14, .int .i64 z27, .int .i64 z28, .string z29, .string z30]) 13 rfl rfl size26 h65 rfl rfl rfl
  refine st_op0 (he67 _ _ _ _ _ _ _ _ _ rfl rfl) rfl rfl ?_
  have hf70 : Fr (fun q => q = b1) H48 H66 := Fr.write H66n_ f69
  have H66n : H48.next ≤ H66.next := hf70.1
  refine st_op (ev_assign rfl) rfl rfl rfl ?_
  try show aw _ _ _ _ _ _
  refine aw_ret ?_
  have hx72 : Ext H11 H38 := (Ext.then hx37 hf42 (fun q hq e => by omega))
  have h71 := My.ext hm15 hx72
  have h73 := My.frS h71 hx49 (fun q hq e => Or.elim e (fun e => ⟨_, e ▸ h46, show (0 : Nat) ≠ 4 by decide⟩) (fun e => (ZB.ne e.2.2 (show (13 : Nat) ≠ 4 by decide))))
  have h74 := My.frS h73 hf70 (fun q hq e => ⟨_, e ▸ h65, show (0 : Nat) ≠ 4 by decide⟩)
  have h75 := My.frS hm52 hf70 (fun q hq e => ⟨_, e ▸ h65, show (0 : Nat) ≠ 13 by decide⟩)
  have h76 := Each.frS hE57 hf70 (fun q hq e => ⟨_, e ▸ h65, show (0 : Nat) ≠ 4 by decide⟩)
  have h77 := Fr.blk hf70 (by omega) (fun e => (by omega)) hB58
  have hres : (Spec.takeT (l.map MsgC.val) i) = (z18, z19, z20, z21, z22, z23, z24, z25, z26, z27, z28, z29, z30, z31, (rl53.map MsgC.val)) := by simp only [Spec.takeT, hR17, hR60]; simp_all
  exact ⟨.tuple #[.agg #[.int .i64 z18, .int .i64 z19, .int .i64 z20, .int .i64 z21, .int .i64 z22, .int .i64 z23, .int .i64 z24, .bool z25, .slice A13 z26.length c14, .int .i64 z27, .int .i64 z28, .string z29, .string z30], .bool z31], (resA_of (resL_cell rfl (lvar_part (l := [.int .i64 z18, .int .i64 z19, .int .i64 z20, .int .i64 z21, .int .i64 z22, .int .i64 z23, .int .i64 z24, .bool z25, .slice A13 z26.length c14, .int .i64 z27, .int .i64 z28, .string z29, .string z30]) many26 hB68 rfl rfl (by decide)) (resL_tmp rfl resL_nil)) rfl), A13, c14, A50, c51, rl53, by first | (rw [hres]; first | done | rfl | simp; done) | rfl, (by first | exact (My.older h74 (by omega)) | (rw [hres]; exact (My.older h74 (by omega)))), (by (rw [hres]) <;> rfl), (by first | exact h75 | (rw [hres]; exact h75)), (by first | exact h76 | (rw [hres]; exact h76)), (by first | exact h77 | (rw [hres]; exact h77)), (by assumption), (Fr.transG (Fr.transG (Fr.transG (Fr.trans (Fr.trans (Fr.trans (Fr.refl (fun q => q = n ∨ (lH.next ≤ q ∧ q < H.next ∧ ZB H q 13)) H) (hx6.fr fun _ => False) (fun q hq (e : False) => e.elim)) (hx12.fr fun _ => False) (fun q hq (e : False) => e.elim)) (hx37.fr fun _ => False) (fun q hq (e : False) => e.elim)) hf42 (fun q hq hE e => absurd hq (by omega))) hx49 (fun q hq hE e => Or.elim e (fun e => Or.inl (e)) (fun e => Or.inr ((⟨by omega, by omega, ZB.back hE e.2.2⟩))))) hf70 (fun q hq hE e => absurd hq (by omega)))⟩
theorem law_NetOwn_spec (H : Heap) (esA : Option Addr) (es : List Entry) (esc : Nat) (hes : Row H esA esc 4 (es.map Entry.cells)) (ces : es.length ≤ esc) (les : es.length ≤ 140737488355328) : ∃ v H', Spec Try.prog 8 [.slice esA es.length esc] H v H' ∧ ((v = .bool true) ∧ (Ext H H')) := by
  refine spec_go1 E0_ok 63 (f := 8) Try.func8 rfl rfl rfl ?_
  refine aw_seq ?_
  refine aw_reg ?_
  refine st_op (ev_assign rfl) rfl rfl rfl ?_
  try show aw _ _ _ _ _ _
  refine aw_seq ?_
  refine aw_reg ?_
  refine st_call rfl rfl rfl ent9 rfl rfl rfl ?_
  obtain ⟨_, H2, hs1, hs1v, hx3⟩ := law25_begun_spec H 
  rw [hs1v] at hs1; clear hs1v
  rw [hx3] at hs1; clear hx3
  refine ⟨_, H, hs1, ?_⟩
  refine st_op (ev_assign rfl) rfl rfl rfl ?_
  try show aw _ _ _ _ _ _
  refine aw_seq ?_
  refine aw_seq ?_
  refine aw_reg ?_
  refine st_op (ev_move rfl) rfl rfl rfl ?_
  refine st_op (ev_not rfl) rfl rfl rfl ?_
  try show aw _ _ _ _ _ _
  refine aw_cond (t := false) rfl ?_
  try show aw _ _ _ _ _ _
  refine aw_skip ?_
  try show aw _ _ _ _ _ _
  refine aw_seq ?_
  refine aw_reg ?_
  refine st_op (ev_move rfl) rfl rfl rfl ?_
  refine st_op (ev_build zero26 pl26 (parts := [(0, .int .i64 3), (1, .int .i64 1), (2, .int .i64 2), (3, .int .i64 1099511627776), (8, .slice esA es.length esc)]) rfl (cs := [.int .i64 3, .int .i64 1, .int .i64 2, .int .i64 1099511627776, .int .i64 0, .int .i64 0, .int .i64 0, .bool false, .slice esA es.length esc, .int .i64 0, .int .i64 0, .string (⟨#[]⟩), .string (⟨#[]⟩)]) rfl) rfl rfl rfl ?_
  refine st_call rfl rfl rfl ent10 rfl rfl rfl ?_
  obtain ⟨_, H5, hs4, A7, c8, hs4v, hm9, hq10, hq11, hq12, hx6⟩ := law24_Cut_spec H (3 : Int) (1 : Int) (2 : Int) (1099511627776 : Int) (0 : Int) (0 : Int) (0 : Int) false esA es esc hes ces (by first | omega | (simp only [List.length_append, List.length_cons, List.length_nil, List.length_map, List.length_set, List.length_replicate, Spec.bytesOf_length]; omega) | (simp; omega)) (0 : Int) (0 : Int) (⟨#[]⟩ : ByteArray) (⟨#[]⟩ : ByteArray)
  rw [hs4v] at hs4; clear hs4v
  generalize hR14 : (((es.take 10).map Entry.cut), cutB (⟨#[]⟩ : ByteArray) 60, cutB (⟨#[]⟩ : ByteArray) 100) = r13 at hs4 hm9 hq10 hq11 hq12
  obtain ⟨z15, z16, z17⟩ := r13
  dsimp only at hs4 hm9 hq10 hq11 hq12
  refine ⟨_, H5, hs4, ?_⟩
  have H5n : H.next ≤ H5.next := hx6.1
  obtain ⟨b18, H19, he20, b18e, H19n_, hB22, f21⟩ := mem_alloc H5 zero26
  refine st_op (he20 _ _ _ _ _ _ _) rfl rfl rfl ?_
  have hx23 : Ext H5 H19 := Ext.new (by omega) H19n_ f21
  have H19n : H5.next ≤ H19.next := hx23.1
  obtain ⟨H24, he25, H24n_, hB26, f27⟩ := mem_store (v := .agg #[.int .i64 (3 : Int), .int .i64 (1 : Int), .int .i64 (2 : Int), .int .i64 (1099511627776 : Int), .int .i64 (0 : Int), .int .i64 (0 : Int), .int .i64 (0 : Int), .bool false, .slice A7 z15.length c8, .int .i64 (0 : Int), .int .i64 (0 : Int), .string z16, .string z17]) (o := 0) (cs' := [.int .i64 (3 : Int), .int .i64 (1 : Int), .int .i64 (2 : Int), .int .i64 (1099511627776 : Int), .int .i64 (0 : Int), .int .i64 (0 : Int), .int .i64 (0 : Int), .bool false, .slice A7 z15.length c8, .int .i64 (0 : Int), .int .i64 (0 : Int), .string z16, .string z17]) 13 rfl rfl size26 hB22 rfl rfl rfl
  refine st_op0 (he25 _ _ _ _ _ _ _ _ _ rfl rfl) rfl rfl ?_
  have hf28 : Fr (fun q => q = b18) H19 H24 := Fr.write H24n_ f27
  have H24n : H19.next ≤ H24.next := hf28.1
  try show aw _ _ _ _ _ _
  refine aw_seq ?_
  refine aw_seq ?_
  refine aw_reg ?_
  refine st_op (ev_load rfl (lvar_part (l := [.int .i64 (3 : Int), .int .i64 (1 : Int), .int .i64 (2 : Int), .int .i64 (1099511627776 : Int), .int .i64 (0 : Int), .int .i64 (0 : Int), .int .i64 (0 : Int), .bool false, .slice A7 z15.length c8, .int .i64 (0 : Int), .int .i64 (0 : Int), .string z16, .string z17]) many26 hB26 rfl rfl (by decide))) rfl rfl rfl ?_
  refine st_call rfl rfl rfl ent12 rfl rfl rfl ?_
  have hx30 : Ext H5 H24 := (Ext.then hx23 hf28 (fun q hq e => by omega))
  have h29 := My.ext hm9 hx30
  obtain ⟨_, H32, hs31, hs31v, hx33⟩ := ref21_May_spec H24 (3 : Int) (1 : Int) (2 : Int) (1099511627776 : Int) (0 : Int) (0 : Int) (0 : Int) false A7 z15 c8 (My.row h29) (My.capF h29 (by first | omega | (simp only [List.length_append, List.length_cons, List.length_nil, List.length_map, List.length_set, List.length_replicate, Spec.bytesOf_length]; omega) | (simp; omega))) (by first | omega | (simp only [List.length_append, List.length_cons, List.length_nil, List.length_map, List.length_set, List.length_replicate, Spec.bytesOf_length]; omega) | (simp; omega)) (0 : Int) (0 : Int) z16 (by first | omega | (simp only [List.length_append, List.length_cons, List.length_nil, List.length_map, List.length_set, List.length_replicate, Spec.bytesOf_length]; omega) | (simp; omega)) z17 (by first | omega | (simp only [List.length_append, List.length_cons, List.length_nil, List.length_map, List.length_set, List.length_replicate, Spec.bytesOf_length]; omega) | (simp; omega))
  rw [hs31v] at hs31; clear hs31v
  refine ⟨_, H32, hs31, ?_⟩
  have H32n : H24.next ≤ H32.next := hx33.1
  refine st_op (ev_not rfl) rfl rfl rfl ?_
  refine st_op (ev_move rfl) rfl rfl rfl ?_
  refine st_bool 20 rfl (fun hb34 => ?_) (fun hb34 => ?_)
  ·
    replace hb34 : (Spec.mayMsg (3 : Int) (1 : Int) (2 : Int) (1099511627776 : Int) (0 : Int) (0 : Int) (0 : Int) false z15 (0 : Int) (0 : Int) z16 z17) = false := by rw [Bool.not_eq_true'] at hb34; exact hb34
    refine st_skip rfl rfl rfl ?_
    refine st_skip rfl rfl rfl ?_
    refine st_skip rfl rfl rfl ?_
    refine st_skip rfl rfl rfl ?_
    refine st_op (ev_pickT rfl rfl) rfl rfl rfl ?_
    try show aw _ _ _ _ _ _
    refine aw_cond (t := true) rfl ?_
    try show aw _ _ _ _ _ _
    refine aw_seq ?_
    refine aw_reg ?_
    refine st_op (ev_assign rfl) rfl rfl rfl ?_
    try show aw _ _ _ _ _ _
    refine aw_ret ?_
    have hx35 : Ext H H32 := (Ext.trans (Ext.then (Ext.trans hx6 hx23) hf28 (fun q hq e => by omega)) hx33)
    have hres : true = true := by simp_all
    exact ⟨.bool true, rfl, by first | (rw [hres]; done) | rw [← hres], hx35⟩
  ·
    replace hb34 : (Spec.mayMsg (3 : Int) (1 : Int) (2 : Int) (1099511627776 : Int) (0 : Int) (0 : Int) (0 : Int) false z15 (0 : Int) (0 : Int) z16 z17) = true := by rw [Bool.not_eq_false'] at hb34; exact hb34
    refine st_op (ev_fieldAddr rfl fa26_8 (o' := 8) rfl) rfl rfl rfl ?_
    have h36 := Ext.blk hx33 (by omega) hB26
    refine st_op (ev_load rfl (lvar_one one22 h36 rfl)) rfl rfl rfl ?_
    refine st_op (ev_lenSl rfl Try.underlying22) rfl rfl rfl ?_
    refine st_op (ev_int rfl rfl rfl) rfl rfl rfl ?_
    refine st_op (ev_pickF rfl rfl) rfl rfl rfl ?_
    try show aw _ _ _ _ _ _
    by_cases hc37 : ((z15.length : Int) == 0) = true
    · refine aw_condT hc37 rfl ?_
      try show aw _ _ _ _ _ _
      have hc37 := eq_of_beq hc37
      refine aw_seq ?_
      refine aw_reg ?_
      refine st_op (ev_assign rfl) rfl rfl rfl ?_
      try show aw _ _ _ _ _ _
      refine aw_ret ?_
      have hx38 : Ext H H32 := (Ext.trans (Ext.then (Ext.trans hx6 hx23) hf28 (fun q hq e => by omega)) hx33)
      have hres : true = true := by simp_all
      exact ⟨.bool true, rfl, by first | (rw [hres]; done) | rw [← hres], hx38⟩
    · rw [Bool.not_eq_true] at hc37; refine aw_condF hc37 rfl ?_
      try show aw _ _ _ _ _ _
      have hc37 := ne_of_beq_false hc37
      refine aw_skip ?_
      try show aw _ _ _ _ _ _
      refine aw_seq ?_
      refine aw_reg ?_
      refine st_call rfl rfl rfl ent16 rfl rfl rfl ?_
      obtain ⟨_, H40, hs39, b42, hs39v, b42l, b42h, b42B, hx41⟩ := net_New_spec H32 
      rw [hs39v] at hs39; clear hs39v
      refine ⟨_, H40, hs39, ?_⟩
      have H40n : H32.next ≤ H40.next := hx41.1
      refine st_op (ev_assign rfl) rfl rfl rfl ?_
      try show aw _ _ _ _ _ _
      refine aw_seq ?_
      refine aw_reg ?_
      have h43 := Ext.blk hx41 (by omega) h36
      refine st_op (ev_load rfl (lvar_part (l := [.int .i64 (3 : Int), .int .i64 (1 : Int), .int .i64 (2 : Int), .int .i64 (1099511627776 : Int), .int .i64 (0 : Int), .int .i64 (0 : Int), .int .i64 (0 : Int), .bool false, .slice A7 z15.length c8, .int .i64 (0 : Int), .int .i64 (0 : Int), .string z16, .string z17]) many26 h43 rfl rfl (by decide))) rfl rfl rfl ?_
      obtain ⟨b44, H45, he46, b44e, H45n_, hB48, f47⟩ := mem_alloc H40 zero26
      refine st_op (he46 _ _ _ _ _ _ _) rfl rfl rfl ?_
      have hx49 : Ext H40 H45 := Ext.new (by omega) H45n_ f47
      have H45n : H40.next ≤ H45.next := hx49.1
      obtain ⟨H50, he51, H50n_, hB52, f53⟩ := mem_store (v := .agg #[.int .i64 (3 : Int), .int .i64 (1 : Int), .int .i64 (2 : Int), .int .i64 (1099511627776 : Int), .int .i64 (0 : Int), .int .i64 (0 : Int), .int .i64 (0 : Int), .bool false, .slice A7 z15.length c8, .int .i64 (0 : Int), .int .i64 (0 : Int), .string z16, .string z17]) (o := 0) (cs' := [.int .i64 (3 : Int), .int .i64 (1 : Int), .int .i64 (2 : Int), .int .i64 (1099511627776 : Int), .int .i64 (0 : Int), .int .i64 (0 : Int), .int .i64 (0 : Int), .bool false, .slice A7 z15.length c8, .int .i64 (0 : Int), .int .i64 (0 : Int), .string z16, .string z17]) 13 rfl rfl size26 hB48 rfl rfl rfl
      refine st_op0 (he51 _ _ _ _ _ _ _ _ _ rfl rfl) rfl rfl ?_
      have hf54 : Fr (fun q => q = b44) H45 H50 := Fr.write H50n_ f53
      have H50n : H45.next ≤ H50.next := hf54.1
      try show aw _ _ _ _ _ _
      refine aw_seq ?_
      refine aw_reg ?_
      refine st_op (ev_fieldAddr rfl fa26_8 (o' := 8) rfl) rfl rfl rfl ?_
      have hx56 : Ext H40 H50 := (Ext.then hx49 hf54 (fun q hq e => by omega))
      have h55 := Ext.blk hx56 (by omega) h43
      refine st_op (ev_load rfl (lvar_one one22 h55 rfl)) rfl rfl rfl ?_
      have hm57 : My H50 H50 none 0 4 (([] : List Entry).map Entry.cells) := .nil
      have hx59 : Ext H24 H50 := (Ext.then (Ext.trans (Ext.trans hx33 hx41) hx49) hf54 (fun q hq e => by omega))
      have h58 := My.ext h29 hx59
      obtain ⟨A60, c61, H62, W63, he64, hm65, hf66⟩ := mem_append (f := Entry.cells) (old := ([] : List Entry)) (new := z15) (m := 0) (mx := z15.length) (c := 0) (by first | rfl | simp) (by first | rfl | simp) eok22 (by decide) hm57 hm57 (by omega) (((My.row h58)).srcF (by decide) (by first | rfl | simp)) rfl Entry.cells_len Entry.cells_one (by first | omega | (simp only [List.length_append, List.length_cons, List.length_nil, List.length_map, List.length_set, List.length_replicate, Spec.bytesOf_length]; omega) | (simp; omega)) (by first | omega | (simp only [List.length_append, List.length_cons, List.length_nil, List.length_map, List.length_set, List.length_replicate, Spec.bytesOf_length]; omega) | (simp; omega))
      refine st_op (he64 _ _ _ _ _ _ _ _ _ _ rfl rfl isrow22) rfl rfl rfl ?_
      have H62n : H50.next ≤ H62.next := hf66.1
      rw [List.nil_append] at hm65
      refine st_op (ev_fieldAddr rfl fa26_8 (o' := 8) rfl) rfl rfl rfl ?_
      have hx68 : Ext H50 H62 := (Ext.then (Ext.refl H50) hf66 (fun q hq e => by omega))
      have h67 := Ext.blk hx68 (by omega) hB52
      obtain ⟨H69, he70, H69n_, hB71, f72⟩ := mem_store (v := .slice A60 z15.length c61) (o := 8) (cs' := [.int .i64 (3 : Int), .int .i64 (1 : Int), .int .i64 (2 : Int), .int .i64 (1099511627776 : Int), .int .i64 (0 : Int), .int .i64 (0 : Int), .int .i64 (0 : Int), .bool false, .slice A60 z15.length c61, .int .i64 (0 : Int), .int .i64 (0 : Int), .string z16, .string z17]) 1 rfl rfl size22 h67 rfl rfl rfl
      refine st_op0 (he70 _ _ _ _ _ _ _ _ _ rfl rfl) rfl rfl ?_
      have hf73 : Fr (fun q => q = b44) H62 H69 := Fr.write H69n_ f72
      have H69n : H62.next ≤ H69.next := hf73.1
      try show aw _ _ _ _ _ _
      refine aw_seq ?_
      refine aw_reg ?_
      refine st_op (ev_move rfl) rfl rfl rfl ?_
      refine st_op (ev_load rfl (lvar_part (l := [.int .i64 (3 : Int), .int .i64 (1 : Int), .int .i64 (2 : Int), .int .i64 (1099511627776 : Int), .int .i64 (0 : Int), .int .i64 (0 : Int), .int .i64 (0 : Int), .bool false, .slice A60 z15.length c61, .int .i64 (0 : Int), .int .i64 (0 : Int), .string z16, .string z17]) many26 hB71 rfl rfl (by decide))) rfl rfl rfl ?_
      refine st_call rfl rfl rfl ent17 rfl rfl rfl ?_
      have hm74 : My H69 H69 none 0 13 (([] : List MsgC).map MsgC.cells) := .nil
      have hx76 : Ext H40 H69 := (Ext.then (Ext.then hx56 hf66 (fun q hq e => by omega)) hf73 (fun q hq e => by omega))
      have h75 := Ext.blk hx76 (by omega) b42B
      have h77 := My.frS hm65 hf73 (fun q hq e => ⟨_, e ▸ h67, show (0 : Nat) ≠ 4 by decide⟩)
      obtain ⟨_, H79, hs78, A81, c82, rl84, hs78v, hl85, hm83, hE88, hB89, hq86, hq87, hx80⟩ := net_Send_spec H69 H69 none ([] : List MsgC) 0 hm74 (by omega) (by first | omega | (simp only [List.length_append, List.length_cons, List.length_nil, List.length_map, List.length_set, List.length_replicate, Spec.bytesOf_length]; omega) | (simp; omega)) Spec.short_nil H69 (Each.nil (S := MsgC.sub) (H0 := H69) (H := H69)) (by omega) b42 (by omega) h75 (3 : Int) (1 : Int) (2 : Int) (1099511627776 : Int) (0 : Int) (0 : Int) (0 : Int) false A60 z15 c61 (My.row h77) (My.capF h77 (by first | omega | (simp only [List.length_append, List.length_cons, List.length_nil, List.length_map, List.length_set, List.length_replicate, Spec.bytesOf_length]; omega) | (simp; omega))) (by first | omega | (simp only [List.length_append, List.length_cons, List.length_nil, List.length_map, List.length_set, List.length_replicate, Spec.bytesOf_length]; omega) | (simp; omega)) (0 : Int) (0 : Int) z16 (by first | omega | (simp only [List.length_append, List.length_cons, List.length_nil, List.length_map, List.length_set, List.length_replicate, Spec.bytesOf_length]; omega) | (simp; omega)) z17 (by first | omega | (simp only [List.length_append, List.length_cons, List.length_nil, List.length_map, List.length_set, List.length_replicate, Spec.bytesOf_length]; omega) | (simp; omega))
      rw [hs78v] at hs78; clear hs78v
      generalize hR91 : (Spec.sendF (([] : List MsgC).map MsgC.val) (⟨(3 : Int), (1 : Int), (2 : Int), (1099511627776 : Int), (0 : Int), (0 : Int), (0 : Int), false, z15, ⟨(0 : Int), (0 : Int), z16, z17⟩⟩ : Msg)) = r90 at hs78 hl85 hm83 hE88 hB89 hq86 hq87
      obtain ⟨z92, z93⟩ := r90
      dsimp only at hs78 hl85 hm83 hE88 hB89 hq86 hq87
      refine ⟨_, H79, hs78, ?_⟩
      have H79n : H69.next ≤ H79.next := hx80.1
      have hl85n := congrArg List.length hl85; rw [List.length_map] at hl85n
      have hz0 := Spec.own_send hR91 (show Spec.mayM _ = true from hb34)
      try show aw _ _ _ _ _ _
      refine aw_seq ?_
      refine aw_reg ?_
      refine st_op (ev_fieldAddr rfl fa26_8 (o' := 8) rfl) rfl rfl rfl ?_
      have h94 := Fr.blk hx80 (by omega) (fun e => Or.elim e (fun e => (by omega)) (fun e => (zb_ne hB71 e.2.2 (show (0 : Nat) ≠ 13 by decide)))) hB71
      refine st_op (ev_load rfl (lvar_one one22 h94 rfl)) rfl rfl rfl ?_
      have h95 := My.frS h77 hx80 (fun q hq e => Or.elim e (fun e => ⟨_, e ▸ h75, show (0 : Nat) ≠ 4 by decide⟩) (fun e => (ZB.ne e.2.2 (show (13 : Nat) ≠ 4 by decide))))
      have hi96 : 0 ≤ (0 : Int) := by omega
      have hi97 : (0 : Int) < ((z15.length : Nat) : Int) := by first | omega | (simp only [List.length_append, List.length_cons, List.length_nil, List.length_map, List.length_set, List.length_replicate, Spec.bytesOf_length]; omega) | (simp; omega)
      obtain ⟨x98, hx99⟩ : ∃ e, z15[0]? = some e := ⟨_, List.getElem?_eq_getElem (by first | omega | (simp only [List.length_append, List.length_cons, List.length_nil, List.length_map, List.length_set, List.length_replicate, Spec.bytesOf_length]; omega) | (simp; omega))⟩
      refine st_op (ev_at rfl rfl (My.row h95) (getMap Entry.cells hx99) (by first | rfl | omega | simp) hi96 hi97 el22) rfl rfl rfl ?_
      refine st_op (ev_atF rfl (My.row h95) (getMap Entry.cells hx99) fa45_1 rfl) rfl rfl rfl ?_
      obtain ⟨H100, W101, he102, hm103, hf104, H100n_⟩ := mem_storeAt (v := .int .i64 (-5)) size2 rfl rfl hm65 h95 (getMap Entry.cells hx99) (show 1 < 4 by decide)
      rw [show (Entry.cells x98).set 1 (.int .i64 (-5)) = Entry.cells (⟨x98.index, (-5), x98.kind, x98.data⟩ : Entry) from rfl, ← List.map_set] at hm103
      refine st_op0 (he102 _ _ _ _ _ _ _ _ _ rfl rfl) rfl rfl ?_
      have H100n : H79.next ≤ H100.next := hf104.1
      try show aw _ _ _ _ _ _
      refine aw_seq ?_
      refine aw_reg ?_
      refine st_op (ev_move rfl) rfl rfl rfl ?_
      refine st_call rfl rfl rfl ent19 rfl rfl rfl ?_
      have h105 := Each.fr hE88 hf104 (fun q h1 h2 e => by omega)
      have h106 := My.frS hm83 hf104 (fun q hq e => (ZB.ne e.2.2 (show (4 : Nat) ≠ 13 by decide)))
      have h107 := Fr.blk hf104 (by omega) (fun e => (zb_ne hB89 e.2.2 (show (0 : Nat) ≠ 4 by decide))) hB89
      obtain ⟨_, H109, hs108, A111, c112, hs108v, hm113, hx110⟩ := net_Look_spec H100 H69 A81 rl84 c82 h106 (by omega) (by first | omega | (simp only [List.length_append, List.length_cons, List.length_nil, List.length_map, List.length_set, List.length_replicate, Spec.bytesOf_length]; omega) | (simp; omega)) (by first | assumption | omega | decide | (simp_all; done)) H69 h105 (by omega) b42 (by omega) h107 0 (by decide)
      rw [hs108v] at hs108; clear hs108v
      generalize hR115 : (Spec.lookF (rl84.map MsgC.val) (0 : Int)) = r114 at hs108 hm113
      obtain ⟨z116, z117, z118, z119, z120, z121, z122, z123, z124, z125, z126, z127, z128, z129⟩ := r114
      dsimp only at hs108 hm113
      refine ⟨_, H109, hs108, ?_⟩
      have H109n : H100.next ≤ H109.next := hx110.1
      have hy130 := hR115.symm.trans (Spec.own_look hl85 hz0)
      simp only [Spec.parts, Prod.mk.injEq] at hy130
      have hy130e := hy130.2.2.2.2.2.2.2.2.1
      have hy130l := congrArg List.length hy130e
      refine st_op (ev_move rfl) rfl rfl rfl ?_
      refine st_op (ev_extract rfl rfl) rfl rfl rfl ?_
      refine st_op (ev_extract rfl rfl) rfl rfl rfl ?_
      obtain ⟨b131, H132, he133, b131e, H132n_, hB135, f134⟩ := mem_alloc H109 zero26
      refine st_op (he133 _ _ _ _ _ _ _) rfl rfl rfl ?_
      have hx136 : Ext H109 H132 := Ext.new (by omega) H132n_ f134
      have H132n : H109.next ≤ H132.next := hx136.1
      obtain ⟨H137, he138, H137n_, hB139, f140⟩ := mem_store (v := .agg #[.int .i64 z116, .int .i64 z117, .int .i64 z118, .int .i64 z119, .int .i64 z120, .int .i64 z121, .int .i64 z122, .bool z123, .slice A111 z124.length c112, .int .i64 z125, .int .i64 z126, .string z127, .string z128]) (o := 0) (cs' := [.int .i64 z116, .int .i64 z117, .int .i64 z118, .int .i64 z119, .int .i64 z120, .int .i64 z121, .int .i64 z122, .bool z123, .slice A111 z124.length c112, .int .i64 z125, .int .i64 z126, .string z127, .string z128]) 13 rfl rfl size26 hB135 rfl rfl rfl
      refine st_op0 (he138 _ _ _ _ _ _ _ _ _ rfl rfl) rfl rfl ?_
      have hf141 : Fr (fun q => q = b131) H132 H137 := Fr.write H137n_ f140
      have H137n : H132.next ≤ H137.next := hf141.1
      refine st_op (ev_assign rfl) rfl rfl rfl ?_
      try show aw _ _ _ _ _ _
      refine aw_seq ?_
      refine aw_seq ?_
      refine aw_reg ?_
      refine st_op (ev_load rfl (lvar_part (l := [.int .i64 z116, .int .i64 z117, .int .i64 z118, .int .i64 z119, .int .i64 z120, .int .i64 z121, .int .i64 z122, .bool z123, .slice A111 z124.length c112, .int .i64 z125, .int .i64 z126, .string z127, .string z128]) many26 hB139 rfl rfl (by decide))) rfl rfl rfl ?_
      have hx143 : Ext H32 H137 := (Ext.then (Ext.trans (Ext.trans (Ext.then (Ext.then (Ext.then (Ext.then (Ext.then (Ext.trans hx41 hx49) hf54 (fun q hq e => by omega)) hf66 (fun q hq e => by omega)) hf73 (fun q hq e => by omega)) hx80 (fun q hq e => by rcases e with e | e <;> omega)) hf104 (fun q hq e => by omega)) hx110) hx136) hf141 (fun q hq e => by omega))
      have h142 := Ext.blk hx143 (by omega) h36
      refine st_op (ev_load rfl (lvar_part (l := [.int .i64 (3 : Int), .int .i64 (1 : Int), .int .i64 (2 : Int), .int .i64 (1099511627776 : Int), .int .i64 (0 : Int), .int .i64 (0 : Int), .int .i64 (0 : Int), .bool false, .slice A7 z15.length c8, .int .i64 (0 : Int), .int .i64 (0 : Int), .string z16, .string z17]) many26 h142 rfl rfl (by decide))) rfl rfl rfl ?_
      refine st_call rfl rfl rfl ent14 rfl rfl rfl ?_
      have hx145 : Ext H109 H137 := (Ext.then hx136 hf141 (fun q hq e => by omega))
      have h144 := My.ext hm113 hx145
      have hx147 : Ext H24 H137 := (Ext.then (Ext.trans (Ext.trans (Ext.then (Ext.then (Ext.then (Ext.then hx59 hf66 (fun q hq e => by omega)) hf73 (fun q hq e => by omega)) hx80 (fun q hq e => by rcases e with e | e <;> omega)) hf104 (fun q hq e => by omega)) hx110) hx136) hf141 (fun q hq e => by omega))
      have h146 := My.ext h29 hx147
      obtain ⟨_, H149, hs148, hs148v, hx150⟩ := law24_EqMsg_spec H137 z116 z117 z118 z119 z120 z121 z122 z123 A111 z124 c112 (My.row h144) (My.capF h144 (by first | omega | (simp only [List.length_append, List.length_cons, List.length_nil, List.length_map, List.length_set, List.length_replicate, Spec.bytesOf_length]; omega) | (simp; omega))) (by first | omega | (simp only [List.length_append, List.length_cons, List.length_nil, List.length_map, List.length_set, List.length_replicate, Spec.bytesOf_length]; omega) | (simp; omega)) z125 z126 z127 z128 (3 : Int) (1 : Int) (2 : Int) (1099511627776 : Int) (0 : Int) (0 : Int) (0 : Int) false A7 z15 c8 (My.row h146) (My.capF h146 (by first | omega | (simp only [List.length_append, List.length_cons, List.length_nil, List.length_map, List.length_set, List.length_replicate, Spec.bytesOf_length]; omega) | (simp; omega))) (by first | omega | (simp only [List.length_append, List.length_cons, List.length_nil, List.length_map, List.length_set, List.length_replicate, Spec.bytesOf_length]; omega) | (simp; omega)) (0 : Int) (0 : Int) z16 z17
      rw [hs148v] at hs148; clear hs148v
      refine ⟨_, H149, hs148, ?_⟩
      have H149n : H137.next ≤ H149.next := hx150.1
      refine st_op (ev_not rfl) rfl rfl rfl ?_
      try show aw _ _ _ _ _ _
      by_cases hc151 : (!(decide (z116 = (3 : Int) ∧ z117 = (1 : Int) ∧ z118 = (2 : Int) ∧ z119 = (1099511627776 : Int) ∧ z120 = (0 : Int) ∧ z121 = (0 : Int) ∧ z122 = (0 : Int) ∧ z123 = false ∧ Spec.eqEs z124 z15 = true ∧ Spec.eqSn z125 z126 z127 z128 (0 : Int) (0 : Int) z16 z17 = true))) = true
      · refine aw_condT hc151 rfl ?_
        try show aw _ _ _ _ _ _
        exfalso; simp_all [Spec.eqEs_self, Spec.eqSn_iff]
      · rw [Bool.not_eq_true] at hc151; refine aw_condF hc151 rfl ?_
        try show aw _ _ _ _ _ _
        replace hc151 : (decide (z116 = (3 : Int) ∧ z117 = (1 : Int) ∧ z118 = (2 : Int) ∧ z119 = (1099511627776 : Int) ∧ z120 = (0 : Int) ∧ z121 = (0 : Int) ∧ z122 = (0 : Int) ∧ z123 = false ∧ Spec.eqEs z124 z15 = true ∧ Spec.eqSn z125 z126 z127 z128 (0 : Int) (0 : Int) z16 z17 = true)) = true := by rw [Bool.not_eq_false'] at hc151; exact hc151
        have hc151 := of_decide_eq_true hc151
        refine aw_skip ?_
        try show aw _ _ _ _ _ _
        refine aw_seq ?_
        refine aw_reg ?_
        refine st_op (ev_fieldAddr rfl fa26_8 (o' := 8) rfl) rfl rfl rfl ?_
        have h152 := Ext.blk hx150 (by omega) hB139
        refine st_op (ev_load rfl (lvar_one one22 h152 rfl)) rfl rfl rfl ?_
        have h153 := My.ext h144 hx150
        have hi154 : 0 ≤ (0 : Int) := by omega
        have hi155 : (0 : Int) < ((z124.length : Nat) : Int) := by first | omega | (simp only [List.length_append, List.length_cons, List.length_nil, List.length_map, List.length_set, List.length_replicate, Spec.bytesOf_length]; omega) | (simp; omega)
        obtain ⟨x156, hx157⟩ : ∃ e, z124[0]? = some e := ⟨_, List.getElem?_eq_getElem (by first | omega | (simp only [List.length_append, List.length_cons, List.length_nil, List.length_map, List.length_set, List.length_replicate, Spec.bytesOf_length]; omega) | (simp; omega))⟩
        refine st_op (ev_at rfl rfl (My.row h153) (getMap Entry.cells hx157) (by first | rfl | omega | simp) hi154 hi155 el22) rfl rfl rfl ?_
        refine st_op (ev_atF rfl (My.row h153) (getMap Entry.cells hx157) fa45_1 rfl) rfl rfl rfl ?_
        obtain ⟨H158, W159, he160, hm161, hf162, H158n_⟩ := mem_storeAt (v := .int .i64 (-6)) size2 rfl rfl hm113 h153 (getMap Entry.cells hx157) (show 1 < 4 by decide)
        rw [show (Entry.cells x156).set 1 (.int .i64 (-6)) = Entry.cells (⟨x156.index, (-6), x156.kind, x156.data⟩ : Entry) from rfl, ← List.map_set] at hm161
        refine st_op0 (he160 _ _ _ _ _ _ _ _ _ rfl rfl) rfl rfl ?_
        have H158n : H149.next ≤ H158.next := hf162.1
        try show aw _ _ _ _ _ _
        refine aw_seq ?_
        refine aw_reg ?_
        refine st_op (ev_move rfl) rfl rfl rfl ?_
        refine st_call rfl rfl rfl ent20 rfl rfl rfl ?_
        have hx164 : Ext H100 H158 := (Ext.then (Ext.trans (Ext.then (Ext.trans hx110 hx136) hf141 (fun q hq e => by omega)) hx150) hf162 (fun q hq e => by omega))
        have h163 := Each.ext h105 hx164
        have h165 := My.ext h106 hx164
        have h166 := Ext.blk hx164 (by omega) h107
        obtain ⟨_, H168, hs167, A170, c171, A173, c174, rl176, hs167v, hm172, hl177, hm175, hE179, hB180, hq178, hx169⟩ := net_Take_spec H158 H69 A81 rl84 c82 h165 (by omega) (by first | omega | (simp only [List.length_append, List.length_cons, List.length_nil, List.length_map, List.length_set, List.length_replicate, Spec.bytesOf_length]; omega) | (simp; omega)) (by first | assumption | omega | decide | (simp_all; done)) H69 h163 (by omega) b42 (by omega) h166 0 (by decide)
        rw [hs167v] at hs167; clear hs167v
        generalize hR182 : (Spec.takeT (rl84.map MsgC.val) (0 : Int)) = r181 at hs167 hl177 hm172 hm175 hE179 hB180 hq178
        obtain ⟨z183, z184, z185, z186, z187, z188, z189, z190, z191, z192, z193, z194, z195, z196, z197⟩ := r181
        dsimp only at hs167 hl177 hm172 hm175 hE179 hB180 hq178
        refine ⟨_, H168, hs167, ?_⟩
        have H168n : H158.next ≤ H168.next := hx169.1
        have hl177n := congrArg List.length hl177; rw [List.length_map] at hl177n
        have hy198 := hR182.symm.trans (Spec.own_take hl85 hz0)
        simp only [Spec.parts, Prod.mk.injEq] at hy198
        have hy198e := hy198.2.2.2.2.2.2.2.2.1
        have hy198l := congrArg List.length hy198e
        refine st_op (ev_move rfl) rfl rfl rfl ?_
        refine st_op (ev_extract rfl rfl) rfl rfl rfl ?_
        refine st_op (ev_extract rfl rfl) rfl rfl rfl ?_
        obtain ⟨b199, H200, he201, b199e, H200n_, hB203, f202⟩ := mem_alloc H168 zero26
        refine st_op (he201 _ _ _ _ _ _ _) rfl rfl rfl ?_
        have hx204 : Ext H168 H200 := Ext.new (by omega) H200n_ f202
        have H200n : H168.next ≤ H200.next := hx204.1
        obtain ⟨H205, he206, H205n_, hB207, f208⟩ := mem_store (v := .agg #[.int .i64 z183, .int .i64 z184, .int .i64 z185, .int .i64 z186, .int .i64 z187, .int .i64 z188, .int .i64 z189, .bool z190, .slice A170 z191.length c171, .int .i64 z192, .int .i64 z193, .string z194, .string z195]) (o := 0) (cs' := [.int .i64 z183, .int .i64 z184, .int .i64 z185, .int .i64 z186, .int .i64 z187, .int .i64 z188, .int .i64 z189, .bool z190, .slice A170 z191.length c171, .int .i64 z192, .int .i64 z193, .string z194, .string z195]) 13 rfl rfl size26 hB203 rfl rfl rfl
        refine st_op0 (he206 _ _ _ _ _ _ _ _ _ rfl rfl) rfl rfl ?_
        have hf209 : Fr (fun q => q = b199) H200 H205 := Fr.write H205n_ f208
        have H205n : H200.next ≤ H205.next := hf209.1
        refine st_op (ev_assign rfl) rfl rfl rfl ?_
        try show aw _ _ _ _ _ _
        refine aw_seq ?_
        refine aw_reg ?_
        refine st_op (ev_move rfl) rfl rfl rfl ?_
        refine st_op (ev_move rfl) rfl rfl rfl ?_
        refine st_bool 58 rfl (fun hb210 => ?_) (fun hb210 => ?_)
        ·
          refine st_op (ev_load rfl (lvar_part (l := [.int .i64 z183, .int .i64 z184, .int .i64 z185, .int .i64 z186, .int .i64 z187, .int .i64 z188, .int .i64 z189, .bool z190, .slice A170 z191.length c171, .int .i64 z192, .int .i64 z193, .string z194, .string z195]) many26 hB207 rfl rfl (by decide))) rfl rfl rfl ?_
          have hx212 : Ext H32 H205 := (Ext.then (Ext.trans (Ext.then (Ext.then (Ext.trans hx143 hx150) hf162 (fun q hq e => by omega)) hx169 (fun q hq e => by rcases e with e | e <;> omega)) hx204) hf209 (fun q hq e => by omega))
          have h211 := Ext.blk hx212 (by omega) h36
          refine st_op (ev_load rfl (lvar_part (l := [.int .i64 (3 : Int), .int .i64 (1 : Int), .int .i64 (2 : Int), .int .i64 (1099511627776 : Int), .int .i64 (0 : Int), .int .i64 (0 : Int), .int .i64 (0 : Int), .bool false, .slice A7 z15.length c8, .int .i64 (0 : Int), .int .i64 (0 : Int), .string z16, .string z17]) many26 h211 rfl rfl (by decide))) rfl rfl rfl ?_
          refine st_call rfl rfl rfl ent14 rfl rfl rfl ?_
          have hx214 : Ext H168 H205 := (Ext.then hx204 hf209 (fun q hq e => by omega))
          have h213 := My.ext hm172 hx214
          have hx216 : Ext H24 H205 := (Ext.then (Ext.trans (Ext.then (Ext.then (Ext.trans hx147 hx150) hf162 (fun q hq e => by omega)) hx169 (fun q hq e => by rcases e with e | e <;> omega)) hx204) hf209 (fun q hq e => by omega))
          have h215 := My.ext h29 hx216
          obtain ⟨_, H218, hs217, hs217v, hx219⟩ := law24_EqMsg_spec H205 z183 z184 z185 z186 z187 z188 z189 z190 A170 z191 c171 (My.row h213) (My.capF h213 (by first | omega | (simp only [List.length_append, List.length_cons, List.length_nil, List.length_map, List.length_set, List.length_replicate, Spec.bytesOf_length]; omega) | (simp; omega))) (by first | omega | (simp only [List.length_append, List.length_cons, List.length_nil, List.length_map, List.length_set, List.length_replicate, Spec.bytesOf_length]; omega) | (simp; omega)) z192 z193 z194 z195 (3 : Int) (1 : Int) (2 : Int) (1099511627776 : Int) (0 : Int) (0 : Int) (0 : Int) false A7 z15 c8 (My.row h215) (My.capF h215 (by first | omega | (simp only [List.length_append, List.length_cons, List.length_nil, List.length_map, List.length_set, List.length_replicate, Spec.bytesOf_length]; omega) | (simp; omega))) (by first | omega | (simp only [List.length_append, List.length_cons, List.length_nil, List.length_map, List.length_set, List.length_replicate, Spec.bytesOf_length]; omega) | (simp; omega)) (0 : Int) (0 : Int) z16 z17
          rw [hs217v] at hs217; clear hs217v
          refine ⟨_, H218, hs217, ?_⟩
          have H218n : H205.next ≤ H218.next := hx219.1
          refine st_op (ev_pickT rfl rfl) rfl rfl rfl ?_
          refine st_op (ev_assign rfl) rfl rfl rfl ?_
          try show aw _ _ _ _ _ _
          refine aw_ret ?_
          have hx220 : Ext H H218 := (Ext.trans (Ext.then (Ext.trans (Ext.then (Ext.then (Ext.trans (Ext.then (Ext.trans (Ext.trans (Ext.then (Ext.then (Ext.then (Ext.then (Ext.then (Ext.trans (Ext.trans (Ext.trans (Ext.then (Ext.trans hx6 hx23) hf28 (fun q hq e => by omega)) hx33) hx41) hx49) hf54 (fun q hq e => by omega)) hf66 (fun q hq e => by omega)) hf73 (fun q hq e => by omega)) hx80 (fun q hq e => by rcases e with e | e <;> omega)) hf104 (fun q hq e => by omega)) hx110) hx136) hf141 (fun q hq e => by omega)) hx150) hf162 (fun q hq e => by omega)) hx169 (fun q hq e => by rcases e with e | e <;> omega)) hx204) hf209 (fun q hq e => by omega)) hx219)
          have hres : true = (decide (z183 = (3 : Int) ∧ z184 = (1 : Int) ∧ z185 = (2 : Int) ∧ z186 = (1099511627776 : Int) ∧ z187 = (0 : Int) ∧ z188 = (0 : Int) ∧ z189 = (0 : Int) ∧ z190 = false ∧ Spec.eqEs z191 z15 = true ∧ Spec.eqSn z192 z193 z194 z195 (0 : Int) (0 : Int) z16 z17 = true)) := by simp_all [Spec.eqEs_self, Spec.eqSn_iff]
          exact ⟨.bool (decide (z183 = (3 : Int) ∧ z184 = (1 : Int) ∧ z185 = (2 : Int) ∧ z186 = (1099511627776 : Int) ∧ z187 = (0 : Int) ∧ z188 = (0 : Int) ∧ z189 = (0 : Int) ∧ z190 = false ∧ Spec.eqEs z191 z15 = true ∧ Spec.eqSn z192 z193 z194 z195 (0 : Int) (0 : Int) z16 z17 = true)), rfl, by first | (rw [hres]; done) | rw [← hres], hx220⟩
        ·
          refine st_skip rfl rfl rfl ?_
          refine st_skip rfl rfl rfl ?_
          refine st_skip rfl rfl rfl ?_
          refine st_op (ev_pickF rfl rfl) rfl rfl rfl ?_
          refine st_op (ev_assign rfl) rfl rfl rfl ?_
          try show aw _ _ _ _ _ _
          refine aw_ret ?_
          have hx221 : Ext H H205 := (Ext.then (Ext.trans (Ext.then (Ext.then (Ext.trans (Ext.then (Ext.trans (Ext.trans (Ext.then (Ext.then (Ext.then (Ext.then (Ext.then (Ext.trans (Ext.trans (Ext.trans (Ext.then (Ext.trans hx6 hx23) hf28 (fun q hq e => by omega)) hx33) hx41) hx49) hf54 (fun q hq e => by omega)) hf66 (fun q hq e => by omega)) hf73 (fun q hq e => by omega)) hx80 (fun q hq e => by rcases e with e | e <;> omega)) hf104 (fun q hq e => by omega)) hx110) hx136) hf141 (fun q hq e => by omega)) hx150) hf162 (fun q hq e => by omega)) hx169 (fun q hq e => by rcases e with e | e <;> omega)) hx204) hf209 (fun q hq e => by omega))
          have hres : true = false := by simp_all
          exact ⟨.bool false, rfl, by first | (rw [hres]; done) | rw [← hres], hx221⟩

end Go.AM
