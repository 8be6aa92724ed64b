/- Part of a machine of its own for this claim: the program's code over memory without draws. -/
import Derived.Test.YtoamlagpnnmnhabAmXWalScan1
set_option linter.unusedVariables false
set_option linter.unusedSimpArgs false
set_option linter.unnecessarySimpa false
set_option linter.unusedVariables false
set_option linter.unusedSimpArgs false
set_option linter.unnecessarySimpa false
namespace Go.AM
open Go Go.Proofs
theorem ref1_Get_spec (H : Heap) (bA : Option Addr) (b : List Int) (bc : Nat) (hb : Row H bA bc 1 (b.map u8c)) (cb : b.length ≤ bc) (lb : b.length ≤ 1099511627776) (bb : Spec.Bytes b) : ∃ v H', Spec Try.prog 52 [.slice bA b.length bc] H v H' ∧ ((v = .tuple #[.int .i64 ((Spec.numGet 0 0 b).1), .int .i64 ((Spec.numGet 0 0 b).2.1), .int .i64 ((Spec.numGet 0 0 b).2.2)]) ∧ ((Spec.numGet 0 0 b).2.2 = 0 → -9223372036854775808 ≤ (Spec.numGet 0 0 b).1 ∧ (Spec.numGet 0 0 b).1 ≤ 9223372036854775807 ∧ 1 ≤ (Spec.numGet 0 0 b).2.1 ∧ (Spec.numGet 0 0 b).2.1 ≤ 10 ∧ (Spec.numGet 0 0 b).2.1 ≤ b.length) ∧ (0 ≤ (Spec.numGet 0 0 b).2.2 ∧ (Spec.numGet 0 0 b).2.2 ≤ 2) ∧ ((Spec.numGet 0 0 b).2.2 ≠ 0 → (Spec.numGet 0 0 b).1 = 0 ∧ (Spec.numGet 0 0 b).2.1 = 0) ∧ (Ext H H')) := by
  refine spec_go1 E0_ok 66 (f := 52) Try.func52 rfl rfl rfl ?_
  refine aw_seq ?_
  refine aw_reg ?_
  refine st_op (ev_assign rfl) rfl rfl rfl ?_
  refine st_op (ev_assign rfl) rfl rfl rfl ?_
  refine st_op (ev_assign rfl) rfl rfl rfl ?_
  try show aw _ _ _ _ _ _
  refine aw_seq ?_
  refine aw_reg ?_
  refine st_op (ev_assign rfl) rfl rfl rfl ?_
  try show aw _ _ _ _ _ _
  refine aw_seq ?_
  refine aw_reg ?_
  refine st_op (ev_assign rfl) rfl rfl rfl ?_
  try show aw _ _ _ _ _ _
  refine aw_seq ?_
  refine aw_seq ?_
  refine aw_reg ?_
  refine st_op (ev_assign rfl) rfl rfl rfl ?_
  try show aw _ _ _ _ _ _
  refine aw_block ?_
  refine aw_keep [0, 5, 6, 7] (l' := (.cons 0 (.slice bA b.length bc) (.cons 5 (.int .u64 0) (.cons 6 (.int .u64 1) (.cons 7 (.int .i64 0) .nil))))) (by repeat (first | exact Up.done | refine Up.then ?_ | refine Up.inBlock ?_)) rfl ?_
  refine aw_iter (α := Nat × Int × Int × Nat × Heap) (fun a => b.length - a.1) (fun a => (.cons 0 (.slice bA b.length bc) (.cons 5 (.int .u64 a.2.1) (.cons 6 (.int .u64 a.2.2.1) (.cons 7 (.int .i64 (a.1 : Int)) .nil))))) (fun a => a.2.2.2.2) (fun a => (a.1 ≤ b.length) ∧ (a.1 ≤ 9) ∧ (a.2.1 = (a.2.2.2.1 : Int)) ∧ (a.2.2.2.1 < 2 ^ (7 * a.1)) ∧ (Spec.numGet 0 0 b = Spec.numGet a.1 a.2.2.2.1 (b.drop a.1)) ∧ (a.2.2.1 = ((2 ^ (7 * a.1) : Nat) : Int)) ∧ (0 ≤ a.2.1 ∧ a.2.1 ≤ 18446744073709551615) ∧ (0 ≤ a.2.2.1 ∧ a.2.2.1 ≤ 18446744073709551615) ∧ (Ext H a.2.2.2.2)) (0, (0 : Int), (1 : Int), 0, H) ⟨(show 0 ≤ b.length from Nat.zero_le _), (show 0 ≤ 9 from Nat.zero_le _), (show (0 : Int) = (0 : Int) from rfl), (show 0 < 2 ^ (7 * 0) from (by decide)), (show Spec.numGet 0 0 b = Spec.numGet 0 0 (b.drop 0) from rfl), (show (1 : Int) = ((2 ^ (7 * 0) : Nat) : Int) from rfl), (show 0 ≤ (0 : Int) ∧ (0 : Int) ≤ 18446744073709551615 from ⟨by omega, by omega⟩), (show 0 ≤ (1 : Int) ∧ (1 : Int) ≤ 18446744073709551615 from ⟨by omega, by omega⟩), (show Ext H H from (Ext.refl H))⟩ ?_
  rintro ⟨i, v, p, u, Hl1⟩ ⟨hi, hnine, hv, hu, hI, hp, hn2, hn3, hxl4⟩ ih5
  replace hi : i ≤ b.length := hi
  replace hnine : i ≤ 9 := hnine
  replace hv : v = (u : Int) := hv
  replace hu : u < 2 ^ (7 * i) := hu
  replace hI : Spec.numGet 0 0 b = Spec.numGet i u (b.drop i) := hI
  replace hp : p = ((2 ^ (7 * i) : Nat) : Int) := hp
  replace hn2 : 0 ≤ v ∧ v ≤ 18446744073709551615 := hn2
  replace hn3 : 0 ≤ p ∧ p ≤ 18446744073709551615 := hn3
  replace hxl4 : Ext H Hl1 := hxl4
  show aw _ _ _ (RL _ (.cons 0 (.slice bA b.length bc) (.cons 5 (.int .u64 v) (.cons 6 (.int .u64 p) (.cons 7 (.int .i64 (i : Int)) .nil))))) Hl1 _
  have Hl1n : H.next ≤ Hl1.next := hxl4.1
  refine aw_seq ?_
  refine aw_seq ?_
  refine aw_reg ?_
  refine st_op (ev_move rfl) rfl rfl rfl ?_
  refine st_op (ev_move rfl) rfl rfl rfl ?_
  refine st_op (ev_lenSl rfl Try.underlying30) rfl rfl rfl ?_
  refine st_op (ev_int rfl rfl rfl) rfl rfl rfl ?_
  try show aw _ _ _ _ _ _
  by_cases hc6 : (decide ((i : Int) < (b.length : Int))) = true
  · refine aw_condT hc6 rfl ?_
    try show aw _ _ _ _ _ _
    have hc6 := of_decide_eq_true hc6
    refine aw_skip ?_
    try show aw _ _ _ _ _ _
    refine aw_seq ?_
    refine aw_block ?_
    refine aw_seq ?_
    refine aw_reg ?_
    refine st_op (ev_move rfl) rfl rfl rfl ?_
    refine st_op (ev_move rfl) rfl rfl rfl ?_
    have h7 := Row.ext hb hxl4
    have hi8 : 0 ≤ ((i : Int) : Int) := by omega
    have hi9 : ((i : Int) : Int) < ((b.length : Nat) : Int) := by first | omega | (simp only [List.length_append, List.length_cons, List.length_nil, List.length_map, List.length_set, List.length_replicate, Spec.bytesOf_length]; omega) | (simp; omega)
    obtain ⟨x10, hx11⟩ : ∃ e, b[i]? = some e := ⟨_, List.getElem?_eq_getElem (by first | omega | (simp only [List.length_append, List.length_cons, List.length_nil, List.length_map, List.length_set, List.length_replicate, Spec.bytesOf_length]; omega) | (simp; omega))⟩
    have x10b : 0 ≤ x10 ∧ x10 < 256 := ((by first | assumption | exact Spec.Bytes.nil | exact Spec.bytes_of _ | (repeat' first | assumption | exact Spec.Bytes.nil | exact Spec.bytes_of _ | exact Spec.enc_bytes _ | exact Spec.four_bytes _ | exact Spec.sealF_bytes (by assumption) | apply Spec.Bytes.append | apply Spec.Bytes.cons (by omega) | apply Spec.Bytes.take | apply Spec.Bytes.drop)) : Spec.Bytes b) _ (List.mem_of_getElem? hx11)
    have hg := fun h => Spec.get_acc (u := u) (i := i) (c := x10) x10b hu hnine h
    have hg2 := fun h => Spec.get_acc2 (u := u) (i := i) (c := x10) (p := p) x10b hu hnine h hp
    refine st_op (ev_at rfl rfl h7 (getMap u8c hx11) (by first | rfl | omega | simp) hi8 hi9 el30) rfl rfl rfl ?_
    refine st_op (ev_atL rfl h7 (getMap u8c hx11) one5 rfl) rfl rfl rfl ?_
    refine st_op (ev_remN (a := x10) (c := 128) rfl rfl (by omega) (by decide) ) rfl rfl rfl ?_
    refine st_op (ev_convI Try.underlying5 Try.underlying91 rfl (wrU64 (by omega) (by omega))) rfl rfl rfl ?_
    refine st_op (ev_assign rfl) rfl rfl rfl ?_
    try show aw _ _ _ _ _ _
    refine aw_seq ?_
    refine aw_seq ?_
    refine aw_reg ?_
    refine st_op (ev_move rfl) rfl rfl rfl ?_
    refine st_op (ev_int rfl rfl rfl) rfl rfl rfl ?_
    refine st_op (ev_move rfl) rfl rfl rfl ?_
    refine st_bool 24 rfl (fun hb12 => ?_) (fun hb12 => ?_)
    ·
      have hb12 := eq_of_beq hb12
      refine st_op (ev_move rfl) rfl rfl rfl ?_
      refine st_op (ev_move rfl) rfl rfl rfl ?_
      have hi13 : 0 ≤ ((i : Int) : Int) := by omega
      have hi14 : ((i : Int) : Int) < ((b.length : Nat) : Int) := by first | omega | (simp only [List.length_append, List.length_cons, List.length_nil, List.length_map, List.length_set, List.length_replicate, Spec.bytesOf_length]; omega) | (simp; omega)
      refine st_op (ev_at rfl rfl h7 (getMap u8c hx11) (by first | rfl | omega | simp) hi13 hi14 el30) rfl rfl rfl ?_
      refine st_op (ev_atL rfl h7 (getMap u8c hx11) one5 rfl) rfl rfl rfl ?_
      refine st_op (ev_int rfl rfl rfl) rfl rfl rfl ?_
      refine st_op (ev_pickT rfl rfl) rfl rfl rfl ?_
      refine st_op (ev_move rfl) rfl rfl rfl ?_
      refine st_bool 31 rfl (fun hb15 => ?_) (fun hb15 => ?_)
      ·
        have hb15 := of_decide_eq_true hb15
        refine st_skip rfl rfl rfl ?_
        refine st_skip rfl rfl rfl ?_
        refine st_skip rfl rfl rfl ?_
        refine st_skip rfl rfl rfl ?_
        refine st_skip rfl rfl rfl ?_
        refine st_skip rfl rfl rfl ?_
        refine st_skip rfl rfl rfl ?_
        refine st_skip rfl rfl rfl ?_
        refine st_skip rfl rfl rfl ?_
        refine st_op (ev_pickT rfl rfl) rfl rfl rfl ?_
        try show aw _ _ _ _ _ _
        refine aw_cond (t := true) rfl ?_
        try show aw _ _ _ _ _ _
        refine aw_seq ?_
        refine aw_reg ?_
        refine st_op (ev_assign rfl) rfl rfl rfl ?_
        refine st_op (ev_assign rfl) rfl rfl rfl ?_
        refine st_op (ev_assign rfl) rfl rfl rfl ?_
        try show aw _ _ _ _ _ _
        refine aw_ret ?_
        have hres : (Spec.numGet 0 0 b) = (0, 0, 1) := by first | (rw [hI, List.drop_eq_nil_of_le (by omega)]; rfl) | (rw [hI, drop_at hx11, Spec.numGet, if_pos (by omega)]; done) | (rw [hI, drop_at hx11, Spec.numGet, if_neg (by omega), if_neg (by omega), if_pos (by omega)]; done) | (subst hv; rw [hI, drop_at hx11, Spec.numGet, if_neg (by omega), if_neg (by omega), if_neg (by omega)]; have h4 := hg.2.2.2 (by omega); rw [h4] at hg2; rw [hg2] at *; have h5 := Spec.get_end2 (m := u + x10.toNat * 2 ^ (7 * i)); congr 1; first | exact (h5.1 (by assumption)).symm | exact (h5.2 (by assumption)).symm)
        exact ⟨.tuple #[.int .i64 0, .int .i64 0, .int .i64 1], rfl, by rw [hres], (by exact (Spec.numGet_all b bb).1), (by exact (Spec.numGet_all b bb).2.1), (by exact (Spec.numGet_all b bb).2.2), hxl4⟩
      ·
        have hb15 := of_decide_eq_false hb15
        refine st_op (ev_move rfl) rfl rfl rfl ?_
        refine st_op (ev_int rfl rfl rfl) rfl rfl rfl ?_
        refine st_op (ev_move rfl) rfl rfl rfl ?_
        refine st_bool 34 rfl (fun hb16 => ?_) (fun hb16 => ?_)
        ·
          have hb16 := of_decide_eq_true hb16
          refine st_op (ev_move rfl) rfl rfl rfl ?_
          refine st_op (ev_move rfl) rfl rfl rfl ?_
          have hi17 : 0 ≤ ((i : Int) : Int) := by omega
          have hi18 : ((i : Int) : Int) < ((b.length : Nat) : Int) := by first | omega | (simp only [List.length_append, List.length_cons, List.length_nil, List.length_map, List.length_set, List.length_replicate, Spec.bytesOf_length]; omega) | (simp; omega)
          refine st_op (ev_at rfl rfl h7 (getMap u8c hx11) (by first | rfl | omega | simp) hi17 hi18 el30) rfl rfl rfl ?_
          refine st_op (ev_atL rfl h7 (getMap u8c hx11) one5 rfl) rfl rfl rfl ?_
          refine st_op (ev_int rfl rfl rfl) rfl rfl rfl ?_
          refine st_op (ev_pickT rfl rfl) rfl rfl rfl ?_
          refine st_op (ev_pickF rfl rfl) rfl rfl rfl ?_
          try show aw _ _ _ _ _ _
          by_cases hc19 : (x10 == 0) = true
          · refine aw_condT hc19 rfl ?_
            try show aw _ _ _ _ _ _
            have hc19 := eq_of_beq hc19
            refine aw_seq ?_
            refine aw_reg ?_
            refine st_op (ev_assign rfl) rfl rfl rfl ?_
            refine st_op (ev_assign rfl) rfl rfl rfl ?_
            refine st_op (ev_assign rfl) rfl rfl rfl ?_
            try show aw _ _ _ _ _ _
            refine aw_ret ?_
            have hres : (Spec.numGet 0 0 b) = (0, 0, 1) := by first | (rw [hI, List.drop_eq_nil_of_le (by omega)]; rfl) | (rw [hI, drop_at hx11, Spec.numGet, if_pos (by omega)]; done) | (rw [hI, drop_at hx11, Spec.numGet, if_neg (by omega), if_neg (by omega), if_pos (by omega)]; done) | (subst hv; rw [hI, drop_at hx11, Spec.numGet, if_neg (by omega), if_neg (by omega), if_neg (by omega)]; have h4 := hg.2.2.2 (by omega); rw [h4] at hg2; rw [hg2] at *; have h5 := Spec.get_end2 (m := u + x10.toNat * 2 ^ (7 * i)); congr 1; first | exact (h5.1 (by assumption)).symm | exact (h5.2 (by assumption)).symm)
            exact ⟨.tuple #[.int .i64 0, .int .i64 0, .int .i64 1], rfl, by rw [hres], (by exact (Spec.numGet_all b bb).1), (by exact (Spec.numGet_all b bb).2.1), (by exact (Spec.numGet_all b bb).2.2), hxl4⟩
          · rw [Bool.not_eq_true] at hc19; refine aw_condF hc19 rfl ?_
            try show aw _ _ _ _ _ _
            have hc19 := ne_of_beq_false hc19
            refine aw_skip ?_
            try show aw _ _ _ _ _ _
            refine aw_seq ?_
            replace hg := hg (by omega); replace hg2 := hg2 (by omega)
            refine aw_reg ?_
            refine st_op (ev_move rfl) rfl rfl rfl ?_
            refine st_op (ev_move rfl) rfl rfl rfl ?_
            refine st_op (ev_move rfl) rfl rfl rfl ?_
            have hw20 : 0 ≤ (IntKind.u64.wrap ((x10 % 128) * p)) ∧ (IntKind.u64.wrap ((x10 % 128) * p)) ≤ 18446744073709551615 := wrapU64 _
            refine st_op (ev_int rfl rfl rfl) rfl rfl rfl ?_
            have hw21 : 0 ≤ (IntKind.u64.wrap (v + (IntKind.u64.wrap ((x10 % 128) * p)))) ∧ (IntKind.u64.wrap (v + (IntKind.u64.wrap ((x10 % 128) * p)))) ≤ 18446744073709551615 := wrapU64 _
            refine st_op (ev_int rfl rfl rfl) rfl rfl rfl ?_
            refine st_op (ev_assign rfl) rfl rfl rfl ?_
            try show aw _ _ _ _ _ _
            refine aw_seq ?_
            refine aw_reg ?_
            refine st_op (ev_move rfl) rfl rfl rfl ?_
            have hw22 : 0 ≤ (IntKind.u64.wrap (p * 128)) ∧ (IntKind.u64.wrap (p * 128)) ≤ 18446744073709551615 := wrapU64 _
            refine st_op (ev_int rfl rfl rfl) rfl rfl rfl ?_
            refine st_op (ev_assign rfl) rfl rfl rfl ?_
            try show aw _ _ _ _ _ _
            refine aw_seq ?_
            refine aw_reg ?_
            refine st_op (ev_move rfl) rfl rfl rfl ?_
            refine st_op (ev_move rfl) rfl rfl rfl ?_
            have hi23 : 0 ≤ ((i : Int) : Int) := by omega
            have hi24 : ((i : Int) : Int) < ((b.length : Nat) : Int) := by first | omega | (simp only [List.length_append, List.length_cons, List.length_nil, List.length_map, List.length_set, List.length_replicate, Spec.bytesOf_length]; omega) | (simp; omega)
            refine st_op (ev_at rfl rfl h7 (getMap u8c hx11) (by first | rfl | omega | simp) hi23 hi24 el30) rfl rfl rfl ?_
            refine st_op (ev_atL rfl h7 (getMap u8c hx11) one5 rfl) rfl rfl rfl ?_
            refine st_op (ev_int rfl rfl rfl) rfl rfl rfl ?_
            try show aw _ _ _ _ _ _
            by_cases hc25 : (decide (x10 < 128)) = true
            · refine aw_condT hc25 rfl ?_
              try show aw _ _ _ _ _ _
              have hc25 := of_decide_eq_true hc25
              refine aw_seq ?_
              refine aw_reg ?_
              refine st_op (ev_move rfl) rfl rfl rfl ?_
              refine st_op (ev_quoN (a := (IntKind.u64.wrap (v + (IntKind.u64.wrap ((x10 % 128) * p))))) (c := 2) rfl rfl (by omega) (by decide) (wrU64 (by omega) (by omega))) rfl rfl rfl ?_
              refine st_op (ev_convI Try.underlying91 Try.underlying2 rfl (wrI64 (by omega) (by omega))) rfl rfl rfl ?_
              refine st_op (ev_assign rfl) rfl rfl rfl ?_
              try show aw _ _ _ _ _ _
              refine aw_seq ?_
              refine aw_seq ?_
              refine aw_reg ?_
              refine st_op (ev_move rfl) rfl rfl rfl ?_
              refine st_op (ev_remN (a := (IntKind.u64.wrap (v + (IntKind.u64.wrap ((x10 % 128) * p))))) (c := 2) rfl rfl (by omega) (by decide) ) rfl rfl rfl ?_
              refine st_op (ev_int rfl rfl rfl) rfl rfl rfl ?_
              try show aw _ _ _ _ _ _
              by_cases hc26 : (((IntKind.u64.wrap (v + (IntKind.u64.wrap ((x10 % 128) * p)))) % 2) == 1) = true
              · refine aw_condT hc26 rfl ?_
                try show aw _ _ _ _ _ _
                have hc26 := eq_of_beq hc26
                refine aw_reg ?_
                refine st_op (ev_move rfl) rfl rfl rfl ?_
                refine st_op (ev_negN rfl ((congrArg _ (Int.zero_sub _)).trans (wrI64 (by omega) (by omega)))) rfl rfl rfl ?_
                refine st_op (ev_int64 (c := (-((IntKind.u64.wrap (v + (IntKind.u64.wrap ((x10 % 128) * p)))) / 2)) - 1) rfl rfl rfl (by omega) (by omega)) rfl rfl rfl ?_
                refine st_op (ev_assign rfl) rfl rfl rfl ?_
                try show aw _ _ _ _ _ _
                refine aw_seq ?_
                refine aw_reg ?_
                refine st_op (ev_move rfl) rfl rfl rfl ?_
                refine st_op (ev_move rfl) rfl rfl rfl ?_
                refine st_op (ev_int64 (c := (i : Int) + 1) rfl rfl rfl (by omega) (by omega)) rfl rfl rfl ?_
                refine st_op (ev_assign rfl) rfl rfl rfl ?_
                refine st_op (ev_assign rfl) rfl rfl rfl ?_
                refine st_op (ev_assign rfl) rfl rfl rfl ?_
                try show aw _ _ _ _ _ _
                refine aw_ret ?_
                have hres : (Spec.numGet 0 0 b) = ((-((IntKind.u64.wrap (v + (IntKind.u64.wrap ((x10 % 128) * p)))) / 2)) - 1, (i : Int) + 1, 0) := by first | (rw [hI, List.drop_eq_nil_of_le (by omega)]; rfl) | (rw [hI, drop_at hx11, Spec.numGet, if_pos (by omega)]; done) | (rw [hI, drop_at hx11, Spec.numGet, if_neg (by omega), if_neg (by omega), if_pos (by omega)]; done) | (subst hv; rw [hI, drop_at hx11, Spec.numGet, if_neg (by omega), if_neg (by omega), if_neg (by omega)]; have h4 := hg.2.2.2 (by omega); rw [h4] at hg2; rw [hg2] at *; have h5 := Spec.get_end2 (m := u + x10.toNat * 2 ^ (7 * i)); congr 1; first | exact (h5.1 (by assumption)).symm | exact (h5.2 (by assumption)).symm)
                exact ⟨.tuple #[.int .i64 ((-((IntKind.u64.wrap (v + (IntKind.u64.wrap ((x10 % 128) * p)))) / 2)) - 1), .int .i64 ((i : Int) + 1), .int .i64 0], rfl, by rw [hres], (by exact (Spec.numGet_all b bb).1), (by exact (Spec.numGet_all b bb).2.1), (by exact (Spec.numGet_all b bb).2.2), hxl4⟩
              · rw [Bool.not_eq_true] at hc26; refine aw_condF hc26 rfl ?_
                try show aw _ _ _ _ _ _
                have hc26 := ne_of_beq_false hc26
                refine aw_skip ?_
                try show aw _ _ _ _ _ _
                refine aw_seq ?_
                refine aw_reg ?_
                refine st_op (ev_move rfl) rfl rfl rfl ?_
                refine st_op (ev_move rfl) rfl rfl rfl ?_
                refine st_op (ev_int64 (c := (i : Int) + 1) rfl rfl rfl (by omega) (by omega)) rfl rfl rfl ?_
                refine st_op (ev_assign rfl) rfl rfl rfl ?_
                refine st_op (ev_assign rfl) rfl rfl rfl ?_
                refine st_op (ev_assign rfl) rfl rfl rfl ?_
                try show aw _ _ _ _ _ _
                refine aw_ret ?_
                have hres : (Spec.numGet 0 0 b) = (((IntKind.u64.wrap (v + (IntKind.u64.wrap ((x10 % 128) * p)))) / 2), (i : Int) + 1, 0) := by first | (rw [hI, List.drop_eq_nil_of_le (by omega)]; rfl) | (rw [hI, drop_at hx11, Spec.numGet, if_pos (by omega)]; done) | (rw [hI, drop_at hx11, Spec.numGet, if_neg (by omega), if_neg (by omega), if_pos (by omega)]; done) | (subst hv; rw [hI, drop_at hx11, Spec.numGet, if_neg (by omega), if_neg (by omega), if_neg (by omega)]; have h4 := hg.2.2.2 (by omega); rw [h4] at hg2; rw [hg2] at *; have h5 := Spec.get_end2 (m := u + x10.toNat * 2 ^ (7 * i)); congr 1; first | exact (h5.1 (by assumption)).symm | exact (h5.2 (by assumption)).symm)
                exact ⟨.tuple #[.int .i64 ((IntKind.u64.wrap (v + (IntKind.u64.wrap ((x10 % 128) * p)))) / 2), .int .i64 ((i : Int) + 1), .int .i64 0], rfl, by rw [hres], (by exact (Spec.numGet_all b bb).1), (by exact (Spec.numGet_all b bb).2.1), (by exact (Spec.numGet_all b bb).2.2), hxl4⟩
            · rw [Bool.not_eq_true] at hc25; refine aw_condF hc25 rfl ?_
              try show aw _ _ _ _ _ _
              have hc25 := of_decide_eq_false hc25
              exfalso; omega
        ·
          have hb16 := of_decide_eq_false hb16
          exfalso; omega
    ·
      have hb12 := ne_of_beq_false hb12
      refine st_skip rfl rfl rfl ?_
      refine st_skip rfl rfl rfl ?_
      refine st_skip rfl rfl rfl ?_
      refine st_skip rfl rfl rfl ?_
      refine st_skip rfl rfl rfl ?_
      refine st_op (ev_pickF rfl rfl) rfl rfl rfl ?_
      refine st_op (ev_move rfl) rfl rfl rfl ?_
      refine st_op (ev_move rfl) rfl rfl rfl ?_
      refine st_op (ev_int rfl rfl rfl) rfl rfl rfl ?_
      refine st_op (ev_move rfl) rfl rfl rfl ?_
      refine st_bool 34 rfl (fun hb27 => ?_) (fun hb27 => ?_)
      ·
        have hb27 := of_decide_eq_true hb27
        refine st_op (ev_move rfl) rfl rfl rfl ?_
        refine st_op (ev_move rfl) rfl rfl rfl ?_
        have hi28 : 0 ≤ ((i : Int) : Int) := by omega
        have hi29 : ((i : Int) : Int) < ((b.length : Nat) : Int) := by first | omega | (simp only [List.length_append, List.length_cons, List.length_nil, List.length_map, List.length_set, List.length_replicate, Spec.bytesOf_length]; omega) | (simp; omega)
        refine st_op (ev_at rfl rfl h7 (getMap u8c hx11) (by first | rfl | omega | simp) hi28 hi29 el30) rfl rfl rfl ?_
        refine st_op (ev_atL rfl h7 (getMap u8c hx11) one5 rfl) rfl rfl rfl ?_
        refine st_op (ev_int rfl rfl rfl) rfl rfl rfl ?_
        refine st_op (ev_pickT rfl rfl) rfl rfl rfl ?_
        refine st_op (ev_pickF rfl rfl) rfl rfl rfl ?_
        try show aw _ _ _ _ _ _
        by_cases hc30 : (x10 == 0) = true
        · refine aw_condT hc30 rfl ?_
          try show aw _ _ _ _ _ _
          have hc30 := eq_of_beq hc30
          refine aw_seq ?_
          refine aw_reg ?_
          refine st_op (ev_assign rfl) rfl rfl rfl ?_
          refine st_op (ev_assign rfl) rfl rfl rfl ?_
          refine st_op (ev_assign rfl) rfl rfl rfl ?_
          try show aw _ _ _ _ _ _
          refine aw_ret ?_
          have hres : (Spec.numGet 0 0 b) = (0, 0, 1) := by first | (rw [hI, List.drop_eq_nil_of_le (by omega)]; rfl) | (rw [hI, drop_at hx11, Spec.numGet, if_pos (by omega)]; done) | (rw [hI, drop_at hx11, Spec.numGet, if_neg (by omega), if_neg (by omega), if_pos (by omega)]; done) | (subst hv; rw [hI, drop_at hx11, Spec.numGet, if_neg (by omega), if_neg (by omega), if_neg (by omega)]; have h4 := hg.2.2.2 (by omega); rw [h4] at hg2; rw [hg2] at *; have h5 := Spec.get_end2 (m := u + x10.toNat * 2 ^ (7 * i)); congr 1; first | exact (h5.1 (by assumption)).symm | exact (h5.2 (by assumption)).symm)
          exact ⟨.tuple #[.int .i64 0, .int .i64 0, .int .i64 1], rfl, by rw [hres], (by exact (Spec.numGet_all b bb).1), (by exact (Spec.numGet_all b bb).2.1), (by exact (Spec.numGet_all b bb).2.2), hxl4⟩
        · rw [Bool.not_eq_true] at hc30; refine aw_condF hc30 rfl ?_
          try show aw _ _ _ _ _ _
          have hc30 := ne_of_beq_false hc30
          refine aw_skip ?_
          try show aw _ _ _ _ _ _
          refine aw_seq ?_
          replace hg := hg (by omega); replace hg2 := hg2 (by omega)
          refine aw_reg ?_
          refine st_op (ev_move rfl) rfl rfl rfl ?_
          refine st_op (ev_move rfl) rfl rfl rfl ?_
          refine st_op (ev_move rfl) rfl rfl rfl ?_
          have hw31 : 0 ≤ (IntKind.u64.wrap ((x10 % 128) * p)) ∧ (IntKind.u64.wrap ((x10 % 128) * p)) ≤ 18446744073709551615 := wrapU64 _
          refine st_op (ev_int rfl rfl rfl) rfl rfl rfl ?_
          have hw32 : 0 ≤ (IntKind.u64.wrap (v + (IntKind.u64.wrap ((x10 % 128) * p)))) ∧ (IntKind.u64.wrap (v + (IntKind.u64.wrap ((x10 % 128) * p)))) ≤ 18446744073709551615 := wrapU64 _
          refine st_op (ev_int rfl rfl rfl) rfl rfl rfl ?_
          refine st_op (ev_assign rfl) rfl rfl rfl ?_
          try show aw _ _ _ _ _ _
          refine aw_seq ?_
          refine aw_reg ?_
          refine st_op (ev_move rfl) rfl rfl rfl ?_
          have hw33 : 0 ≤ (IntKind.u64.wrap (p * 128)) ∧ (IntKind.u64.wrap (p * 128)) ≤ 18446744073709551615 := wrapU64 _
          refine st_op (ev_int rfl rfl rfl) rfl rfl rfl ?_
          refine st_op (ev_assign rfl) rfl rfl rfl ?_
          try show aw _ _ _ _ _ _
          refine aw_seq ?_
          refine aw_reg ?_
          refine st_op (ev_move rfl) rfl rfl rfl ?_
          refine st_op (ev_move rfl) rfl rfl rfl ?_
          have hi34 : 0 ≤ ((i : Int) : Int) := by omega
          have hi35 : ((i : Int) : Int) < ((b.length : Nat) : Int) := by first | omega | (simp only [List.length_append, List.length_cons, List.length_nil, List.length_map, List.length_set, List.length_replicate, Spec.bytesOf_length]; omega) | (simp; omega)
          refine st_op (ev_at rfl rfl h7 (getMap u8c hx11) (by first | rfl | omega | simp) hi34 hi35 el30) rfl rfl rfl ?_
          refine st_op (ev_atL rfl h7 (getMap u8c hx11) one5 rfl) rfl rfl rfl ?_
          refine st_op (ev_int rfl rfl rfl) rfl rfl rfl ?_
          try show aw _ _ _ _ _ _
          by_cases hc36 : (decide (x10 < 128)) = true
          · refine aw_condT hc36 rfl ?_
            try show aw _ _ _ _ _ _
            have hc36 := of_decide_eq_true hc36
            refine aw_seq ?_
            refine aw_reg ?_
            refine st_op (ev_move rfl) rfl rfl rfl ?_
            refine st_op (ev_quoN (a := (IntKind.u64.wrap (v + (IntKind.u64.wrap ((x10 % 128) * p))))) (c := 2) rfl rfl (by omega) (by decide) (wrU64 (by omega) (by omega))) rfl rfl rfl ?_
            refine st_op (ev_convI Try.underlying91 Try.underlying2 rfl (wrI64 (by omega) (by omega))) rfl rfl rfl ?_
            refine st_op (ev_assign rfl) rfl rfl rfl ?_
            try show aw _ _ _ _ _ _
            refine aw_seq ?_
            refine aw_seq ?_
            refine aw_reg ?_
            refine st_op (ev_move rfl) rfl rfl rfl ?_
            refine st_op (ev_remN (a := (IntKind.u64.wrap (v + (IntKind.u64.wrap ((x10 % 128) * p))))) (c := 2) rfl rfl (by omega) (by decide) ) rfl rfl rfl ?_
            refine st_op (ev_int rfl rfl rfl) rfl rfl rfl ?_
            try show aw _ _ _ _ _ _
            by_cases hc37 : (((IntKind.u64.wrap (v + (IntKind.u64.wrap ((x10 % 128) * p)))) % 2) == 1) = true
            · refine aw_condT hc37 rfl ?_
              try show aw _ _ _ _ _ _
              have hc37 := eq_of_beq hc37
              refine aw_reg ?_
              refine st_op (ev_move rfl) rfl rfl rfl ?_
              refine st_op (ev_negN rfl ((congrArg _ (Int.zero_sub _)).trans (wrI64 (by omega) (by omega)))) rfl rfl rfl ?_
              refine st_op (ev_int64 (c := (-((IntKind.u64.wrap (v + (IntKind.u64.wrap ((x10 % 128) * p)))) / 2)) - 1) rfl rfl rfl (by omega) (by omega)) rfl rfl rfl ?_
              refine st_op (ev_assign rfl) rfl rfl rfl ?_
              try show aw _ _ _ _ _ _
              refine aw_seq ?_
              refine aw_reg ?_
              refine st_op (ev_move rfl) rfl rfl rfl ?_
              refine st_op (ev_move rfl) rfl rfl rfl ?_
              refine st_op (ev_int64 (c := (i : Int) + 1) rfl rfl rfl (by omega) (by omega)) rfl rfl rfl ?_
              refine st_op (ev_assign rfl) rfl rfl rfl ?_
              refine st_op (ev_assign rfl) rfl rfl rfl ?_
              refine st_op (ev_assign rfl) rfl rfl rfl ?_
              try show aw _ _ _ _ _ _
              refine aw_ret ?_
              have hres : (Spec.numGet 0 0 b) = ((-((IntKind.u64.wrap (v + (IntKind.u64.wrap ((x10 % 128) * p)))) / 2)) - 1, (i : Int) + 1, 0) := by first | (rw [hI, List.drop_eq_nil_of_le (by omega)]; rfl) | (rw [hI, drop_at hx11, Spec.numGet, if_pos (by omega)]; done) | (rw [hI, drop_at hx11, Spec.numGet, if_neg (by omega), if_neg (by omega), if_pos (by omega)]; done) | (subst hv; rw [hI, drop_at hx11, Spec.numGet, if_neg (by omega), if_neg (by omega), if_neg (by omega)]; have h4 := hg.2.2.2 (by omega); rw [h4] at hg2; rw [hg2] at *; have h5 := Spec.get_end2 (m := u + x10.toNat * 2 ^ (7 * i)); congr 1; first | exact (h5.1 (by assumption)).symm | exact (h5.2 (by assumption)).symm)
              exact ⟨.tuple #[.int .i64 ((-((IntKind.u64.wrap (v + (IntKind.u64.wrap ((x10 % 128) * p)))) / 2)) - 1), .int .i64 ((i : Int) + 1), .int .i64 0], rfl, by rw [hres], (by exact (Spec.numGet_all b bb).1), (by exact (Spec.numGet_all b bb).2.1), (by exact (Spec.numGet_all b bb).2.2), hxl4⟩
            · rw [Bool.not_eq_true] at hc37; refine aw_condF hc37 rfl ?_
              try show aw _ _ _ _ _ _
              have hc37 := ne_of_beq_false hc37
              refine aw_skip ?_
              try show aw _ _ _ _ _ _
              refine aw_seq ?_
              refine aw_reg ?_
              refine st_op (ev_move rfl) rfl rfl rfl ?_
              refine st_op (ev_move rfl) rfl rfl rfl ?_
              refine st_op (ev_int64 (c := (i : Int) + 1) rfl rfl rfl (by omega) (by omega)) rfl rfl rfl ?_
              refine st_op (ev_assign rfl) rfl rfl rfl ?_
              refine st_op (ev_assign rfl) rfl rfl rfl ?_
              refine st_op (ev_assign rfl) rfl rfl rfl ?_
              try show aw _ _ _ _ _ _
              refine aw_ret ?_
              have hres : (Spec.numGet 0 0 b) = (((IntKind.u64.wrap (v + (IntKind.u64.wrap ((x10 % 128) * p)))) / 2), (i : Int) + 1, 0) := by first | (rw [hI, List.drop_eq_nil_of_le (by omega)]; rfl) | (rw [hI, drop_at hx11, Spec.numGet, if_pos (by omega)]; done) | (rw [hI, drop_at hx11, Spec.numGet, if_neg (by omega), if_neg (by omega), if_pos (by omega)]; done) | (subst hv; rw [hI, drop_at hx11, Spec.numGet, if_neg (by omega), if_neg (by omega), if_neg (by omega)]; have h4 := hg.2.2.2 (by omega); rw [h4] at hg2; rw [hg2] at *; have h5 := Spec.get_end2 (m := u + x10.toNat * 2 ^ (7 * i)); congr 1; first | exact (h5.1 (by assumption)).symm | exact (h5.2 (by assumption)).symm)
              exact ⟨.tuple #[.int .i64 ((IntKind.u64.wrap (v + (IntKind.u64.wrap ((x10 % 128) * p)))) / 2), .int .i64 ((i : Int) + 1), .int .i64 0], rfl, by rw [hres], (by exact (Spec.numGet_all b bb).1), (by exact (Spec.numGet_all b bb).2.1), (by exact (Spec.numGet_all b bb).2.2), hxl4⟩
          · rw [Bool.not_eq_true] at hc36; refine aw_condF hc36 rfl ?_
            try show aw _ _ _ _ _ _
            have hc36 := of_decide_eq_false hc36
            refine aw_skip ?_
            try show aw _ _ _ _ _ _
            refine aw_reg ?_
            refine st_op (ev_move rfl) rfl rfl rfl ?_
            refine st_op (ev_int64 (c := (i : Int) + 1) rfl rfl rfl (by omega) (by omega)) rfl rfl rfl ?_
            refine st_op (ev_assign rfl) rfl rfl rfl ?_
            try show aw _ _ _ _ _ _
            refine aw_keep [0, 5, 6, 7] (l' := (.cons 0 (.slice bA b.length bc) (.cons 5 (.int .u64 (IntKind.u64.wrap (v + (IntKind.u64.wrap ((x10 % 128) * p))))) (.cons 6 (.int .u64 (IntKind.u64.wrap (p * 128))) (.cons 7 (.int .i64 ((i : Int) + 1)) .nil))))) (by repeat (first | exact Up.done | refine Up.then ?_ | refine Up.inBlock ?_)) rfl ?_
            exact ih5 (i + 1, (IntKind.u64.wrap (v + (IntKind.u64.wrap ((x10 % 128) * p)))), (IntKind.u64.wrap (p * 128)), (u + (x10 % 128).toNat * 2 ^ (7 * i)), Hl1) ⟨(show (i + 1) ≤ b.length from (by omega)), (show (i + 1) ≤ 9 from (by omega)), (show (IntKind.u64.wrap (v + (IntKind.u64.wrap ((x10 % 128) * p)))) = ((u + (x10 % 128).toNat * 2 ^ (7 * i)) : Int) from (by subst hv; exact hg2)), (show (u + (x10 % 128).toNat * 2 ^ (7 * i)) < 2 ^ (7 * (i + 1)) from (hg.2.2.1 (by omega))), (show Spec.numGet 0 0 b = Spec.numGet (i + 1) (u + (x10 % 128).toNat * 2 ^ (7 * i)) (b.drop (i + 1)) from (by rw [hI, drop_at hx11, Spec.numGet, if_neg (by omega), if_pos (by omega)])), (show (IntKind.u64.wrap (p * 128)) = ((2 ^ (7 * (i + 1)) : Nat) : Int) from (Spec.pow_next (by omega) hp)), (show 0 ≤ (IntKind.u64.wrap (v + (IntKind.u64.wrap ((x10 % 128) * p)))) ∧ (IntKind.u64.wrap (v + (IntKind.u64.wrap ((x10 % 128) * p)))) ≤ 18446744073709551615 from ⟨by omega, by omega⟩), (show 0 ≤ (IntKind.u64.wrap (p * 128)) ∧ (IntKind.u64.wrap (p * 128)) ≤ 18446744073709551615 from ⟨by omega, by omega⟩), (show Ext H Hl1 from hxl4)⟩ (by simp only; omega)
      ·
        have hb27 := of_decide_eq_false hb27
        refine st_skip rfl rfl rfl ?_
        refine st_skip rfl rfl rfl ?_
        refine st_skip rfl rfl rfl ?_
        refine st_skip rfl rfl rfl ?_
        refine st_skip rfl rfl rfl ?_
        refine st_op (ev_pickF rfl rfl) rfl rfl rfl ?_
        refine st_op (ev_pickF rfl rfl) rfl rfl rfl ?_
        try show aw _ _ _ _ _ _
        refine aw_cond (t := false) rfl ?_
        try show aw _ _ _ _ _ _
        refine aw_skip ?_
        try show aw _ _ _ _ _ _
        refine aw_seq ?_
        replace hg := hg (by omega); replace hg2 := hg2 (by omega)
        refine aw_reg ?_
        refine st_op (ev_move rfl) rfl rfl rfl ?_
        refine st_op (ev_move rfl) rfl rfl rfl ?_
        refine st_op (ev_move rfl) rfl rfl rfl ?_
        have hw38 : 0 ≤ (IntKind.u64.wrap ((x10 % 128) * p)) ∧ (IntKind.u64.wrap ((x10 % 128) * p)) ≤ 18446744073709551615 := wrapU64 _
        refine st_op (ev_int rfl rfl rfl) rfl rfl rfl ?_
        have hw39 : 0 ≤ (IntKind.u64.wrap (v + (IntKind.u64.wrap ((x10 % 128) * p)))) ∧ (IntKind.u64.wrap (v + (IntKind.u64.wrap ((x10 % 128) * p)))) ≤ 18446744073709551615 := wrapU64 _
        refine st_op (ev_int rfl rfl rfl) rfl rfl rfl ?_
        refine st_op (ev_assign rfl) rfl rfl rfl ?_
        try show aw _ _ _ _ _ _
        refine aw_seq ?_
        refine aw_reg ?_
        refine st_op (ev_move rfl) rfl rfl rfl ?_
        have hw40 : 0 ≤ (IntKind.u64.wrap (p * 128)) ∧ (IntKind.u64.wrap (p * 128)) ≤ 18446744073709551615 := wrapU64 _
        refine st_op (ev_int rfl rfl rfl) rfl rfl rfl ?_
        refine st_op (ev_assign rfl) rfl rfl rfl ?_
        try show aw _ _ _ _ _ _
        refine aw_seq ?_
        refine aw_reg ?_
        refine st_op (ev_move rfl) rfl rfl rfl ?_
        refine st_op (ev_move rfl) rfl rfl rfl ?_
        have hi41 : 0 ≤ ((i : Int) : Int) := by omega
        have hi42 : ((i : Int) : Int) < ((b.length : Nat) : Int) := by first | omega | (simp only [List.length_append, List.length_cons, List.length_nil, List.length_map, List.length_set, List.length_replicate, Spec.bytesOf_length]; omega) | (simp; omega)
        refine st_op (ev_at rfl rfl h7 (getMap u8c hx11) (by first | rfl | omega | simp) hi41 hi42 el30) rfl rfl rfl ?_
        refine st_op (ev_atL rfl h7 (getMap u8c hx11) one5 rfl) rfl rfl rfl ?_
        refine st_op (ev_int rfl rfl rfl) rfl rfl rfl ?_
        try show aw _ _ _ _ _ _
        by_cases hc43 : (decide (x10 < 128)) = true
        · refine aw_condT hc43 rfl ?_
          try show aw _ _ _ _ _ _
          have hc43 := of_decide_eq_true hc43
          refine aw_seq ?_
          refine aw_reg ?_
          refine st_op (ev_move rfl) rfl rfl rfl ?_
          refine st_op (ev_quoN (a := (IntKind.u64.wrap (v + (IntKind.u64.wrap ((x10 % 128) * p))))) (c := 2) rfl rfl (by omega) (by decide) (wrU64 (by omega) (by omega))) rfl rfl rfl ?_
          refine st_op (ev_convI Try.underlying91 Try.underlying2 rfl (wrI64 (by omega) (by omega))) rfl rfl rfl ?_
          refine st_op (ev_assign rfl) rfl rfl rfl ?_
          try show aw _ _ _ _ _ _
          refine aw_seq ?_
          refine aw_seq ?_
          refine aw_reg ?_
          refine st_op (ev_move rfl) rfl rfl rfl ?_
          refine st_op (ev_remN (a := (IntKind.u64.wrap (v + (IntKind.u64.wrap ((x10 % 128) * p))))) (c := 2) rfl rfl (by omega) (by decide) ) rfl rfl rfl ?_
          refine st_op (ev_int rfl rfl rfl) rfl rfl rfl ?_
          try show aw _ _ _ _ _ _
          by_cases hc44 : (((IntKind.u64.wrap (v + (IntKind.u64.wrap ((x10 % 128) * p)))) % 2) == 1) = true
          · refine aw_condT hc44 rfl ?_
            try show aw _ _ _ _ _ _
            have hc44 := eq_of_beq hc44
            refine aw_reg ?_
            refine st_op (ev_move rfl) rfl rfl rfl ?_
            refine st_op (ev_negN rfl ((congrArg _ (Int.zero_sub _)).trans (wrI64 (by omega) (by omega)))) rfl rfl rfl ?_
            refine st_op (ev_int64 (c := (-((IntKind.u64.wrap (v + (IntKind.u64.wrap ((x10 % 128) * p)))) / 2)) - 1) rfl rfl rfl (by omega) (by omega)) rfl rfl rfl ?_
            refine st_op (ev_assign rfl) rfl rfl rfl ?_
            try show aw _ _ _ _ _ _
            refine aw_seq ?_
            refine aw_reg ?_
            refine st_op (ev_move rfl) rfl rfl rfl ?_
            refine st_op (ev_move rfl) rfl rfl rfl ?_
            refine st_op (ev_int64 (c := (i : Int) + 1) rfl rfl rfl (by omega) (by omega)) rfl rfl rfl ?_
            refine st_op (ev_assign rfl) rfl rfl rfl ?_
            refine st_op (ev_assign rfl) rfl rfl rfl ?_
            refine st_op (ev_assign rfl) rfl rfl rfl ?_
            try show aw _ _ _ _ _ _
            refine aw_ret ?_
            have hres : (Spec.numGet 0 0 b) = ((-((IntKind.u64.wrap (v + (IntKind.u64.wrap ((x10 % 128) * p)))) / 2)) - 1, (i : Int) + 1, 0) := by first | (rw [hI, List.drop_eq_nil_of_le (by omega)]; rfl) | (rw [hI, drop_at hx11, Spec.numGet, if_pos (by omega)]; done) | (rw [hI, drop_at hx11, Spec.numGet, if_neg (by omega), if_neg (by omega), if_pos (by omega)]; done) | (subst hv; rw [hI, drop_at hx11, Spec.numGet, if_neg (by omega), if_neg (by omega), if_neg (by omega)]; have h4 := hg.2.2.2 (by omega); rw [h4] at hg2; rw [hg2] at *; have h5 := Spec.get_end2 (m := u + x10.toNat * 2 ^ (7 * i)); congr 1; first | exact (h5.1 (by assumption)).symm | exact (h5.2 (by assumption)).symm)
            exact ⟨.tuple #[.int .i64 ((-((IntKind.u64.wrap (v + (IntKind.u64.wrap ((x10 % 128) * p)))) / 2)) - 1), .int .i64 ((i : Int) + 1), .int .i64 0], rfl, by rw [hres], (by exact (Spec.numGet_all b bb).1), (by exact (Spec.numGet_all b bb).2.1), (by exact (Spec.numGet_all b bb).2.2), hxl4⟩
          · rw [Bool.not_eq_true] at hc44; refine aw_condF hc44 rfl ?_
            try show aw _ _ _ _ _ _
            have hc44 := ne_of_beq_false hc44
            refine aw_skip ?_
            try show aw _ _ _ _ _ _
            refine aw_seq ?_
            refine aw_reg ?_
            refine st_op (ev_move rfl) rfl rfl rfl ?_
            refine st_op (ev_move rfl) rfl rfl rfl ?_
            refine st_op (ev_int64 (c := (i : Int) + 1) rfl rfl rfl (by omega) (by omega)) rfl rfl rfl ?_
            refine st_op (ev_assign rfl) rfl rfl rfl ?_
            refine st_op (ev_assign rfl) rfl rfl rfl ?_
            refine st_op (ev_assign rfl) rfl rfl rfl ?_
            try show aw _ _ _ _ _ _
            refine aw_ret ?_
            have hres : (Spec.numGet 0 0 b) = (((IntKind.u64.wrap (v + (IntKind.u64.wrap ((x10 % 128) * p)))) / 2), (i : Int) + 1, 0) := by first | (rw [hI, List.drop_eq_nil_of_le (by omega)]; rfl) | (rw [hI, drop_at hx11, Spec.numGet, if_pos (by omega)]; done) | (rw [hI, drop_at hx11, Spec.numGet, if_neg (by omega), if_neg (by omega), if_pos (by omega)]; done) | (subst hv; rw [hI, drop_at hx11, Spec.numGet, if_neg (by omega), if_neg (by omega), if_neg (by omega)]; have h4 := hg.2.2.2 (by omega); rw [h4] at hg2; rw [hg2] at *; have h5 := Spec.get_end2 (m := u + x10.toNat * 2 ^ (7 * i)); congr 1; first | exact (h5.1 (by assumption)).symm | exact (h5.2 (by assumption)).symm)
            exact ⟨.tuple #[.int .i64 ((IntKind.u64.wrap (v + (IntKind.u64.wrap ((x10 % 128) * p)))) / 2), .int .i64 ((i : Int) + 1), .int .i64 0], rfl, by rw [hres], (by exact (Spec.numGet_all b bb).1), (by exact (Spec.numGet_all b bb).2.1), (by exact (Spec.numGet_all b bb).2.2), hxl4⟩
        · rw [Bool.not_eq_true] at hc43; refine aw_condF hc43 rfl ?_
          try show aw _ _ _ _ _ _
          have hc43 := of_decide_eq_false hc43
          refine aw_skip ?_
          try show aw _ _ _ _ _ _
          refine aw_reg ?_
          refine st_op (ev_move rfl) rfl rfl rfl ?_
          refine st_op (ev_int64 (c := (i : Int) + 1) rfl rfl rfl (by omega) (by omega)) rfl rfl rfl ?_
          refine st_op (ev_assign rfl) rfl rfl rfl ?_
          try show aw _ _ _ _ _ _
          refine aw_keep [0, 5, 6, 7] (l' := (.cons 0 (.slice bA b.length bc) (.cons 5 (.int .u64 (IntKind.u64.wrap (v + (IntKind.u64.wrap ((x10 % 128) * p))))) (.cons 6 (.int .u64 (IntKind.u64.wrap (p * 128))) (.cons 7 (.int .i64 ((i : Int) + 1)) .nil))))) (by repeat (first | exact Up.done | refine Up.then ?_ | refine Up.inBlock ?_)) rfl ?_
          exact ih5 (i + 1, (IntKind.u64.wrap (v + (IntKind.u64.wrap ((x10 % 128) * p)))), (IntKind.u64.wrap (p * 128)), (u + (x10 % 128).toNat * 2 ^ (7 * i)), Hl1) ⟨(show (i + 1) ≤ b.length from (by omega)), (show (i + 1) ≤ 9 from (by omega)), (show (IntKind.u64.wrap (v + (IntKind.u64.wrap ((x10 % 128) * p)))) = ((u + (x10 % 128).toNat * 2 ^ (7 * i)) : Int) from (by subst hv; exact hg2)), (show (u + (x10 % 128).toNat * 2 ^ (7 * i)) < 2 ^ (7 * (i + 1)) from (hg.2.2.1 (by omega))), (show Spec.numGet 0 0 b = Spec.numGet (i + 1) (u + (x10 % 128).toNat * 2 ^ (7 * i)) (b.drop (i + 1)) from (by rw [hI, drop_at hx11, Spec.numGet, if_neg (by omega), if_pos (by omega)])), (show (IntKind.u64.wrap (p * 128)) = ((2 ^ (7 * (i + 1)) : Nat) : Int) from (Spec.pow_next (by omega) hp)), (show 0 ≤ (IntKind.u64.wrap (v + (IntKind.u64.wrap ((x10 % 128) * p)))) ∧ (IntKind.u64.wrap (v + (IntKind.u64.wrap ((x10 % 128) * p)))) ≤ 18446744073709551615 from ⟨by omega, by omega⟩), (show 0 ≤ (IntKind.u64.wrap (p * 128)) ∧ (IntKind.u64.wrap (p * 128)) ≤ 18446744073709551615 from ⟨by omega, by omega⟩), (show Ext H Hl1 from hxl4)⟩ (by simp only; omega)
  · rw [Bool.not_eq_true] at hc6; refine aw_condF hc6 rfl ?_
    try show aw _ _ _ _ _ _
    have hc6 := of_decide_eq_false hc6
    refine aw_exit ?_
    try show aw _ _ _ _ _ _
    refine aw_seq ?_
    refine aw_reg ?_
    refine st_op (ev_assign rfl) rfl rfl rfl ?_
    refine st_op (ev_assign rfl) rfl rfl rfl ?_
    refine st_op (ev_assign rfl) rfl rfl rfl ?_
    try show aw _ _ _ _ _ _
    refine aw_ret ?_
    have hres : (Spec.numGet 0 0 b) = (0, 0, 2) := by first | (rw [hI, List.drop_eq_nil_of_le (by omega)]; rfl) | (rw [hI, drop_at hx11, Spec.numGet, if_pos (by omega)]; done) | (rw [hI, drop_at hx11, Spec.numGet, if_neg (by omega), if_neg (by omega), if_pos (by omega)]; done) | (subst hv; rw [hI, drop_at hx11, Spec.numGet, if_neg (by omega), if_neg (by omega), if_neg (by omega)]; have h4 := hg.2.2.2 (by omega); rw [h4] at hg2; rw [hg2] at *; have h5 := Spec.get_end2 (m := u + x10.toNat * 2 ^ (7 * i)); congr 1; first | exact (h5.1 (by assumption)).symm | exact (h5.2 (by assumption)).symm)
    exact ⟨.tuple #[.int .i64 0, .int .i64 0, .int .i64 2], rfl, by rw [hres], (by exact (Spec.numGet_all b bb).1), (by exact (Spec.numGet_all b bb).2.1), (by exact (Spec.numGet_all b bb).2.2), hxl4⟩
theorem ref1_Put_spec (H : Heap) (n : Int) (hn : -9223372036854775808 ≤ n ∧ n ≤ 9223372036854775807) : ∃ v H', Spec Try.prog 36 [.int .i64 n] H v H' ∧ (∃ rA0 rc0, (v = .slice rA0 ((Spec.enc (Spec.zig n)).length) rc0) ∧ (My H H' rA0 rc0 1 ((Spec.enc (Spec.zig n)).map u8c)) ∧ ((Spec.enc (Spec.zig n)).length ≤ 10) ∧ (Ext H H')) := by
  refine spec_go1 E0_ok 28 (f := 36) Try.func36 rfl rfl rfl ?_
  refine aw_seq ?_
  refine aw_reg ?_
  refine st_op (ev_assign rfl) rfl rfl rfl ?_
  try show aw _ _ _ _ _ _
  refine aw_seq ?_
  refine aw_reg ?_
  refine st_op (ev_move rfl) rfl rfl rfl ?_
  have hw1 : 0 ≤ (IntKind.u64.wrap n) ∧ (IntKind.u64.wrap n) ≤ 18446744073709551615 := wrapU64 _
  refine st_op (ev_convInt Try.underlying2 Try.underlying91 rfl) rfl rfl rfl ?_
  have hw2 : 0 ≤ (IntKind.u64.wrap ((IntKind.u64.wrap n) * 2)) ∧ (IntKind.u64.wrap ((IntKind.u64.wrap n) * 2)) ≤ 18446744073709551615 := wrapU64 _
  refine st_op (ev_int rfl rfl rfl) rfl rfl rfl ?_
  refine st_op (ev_assign rfl) rfl rfl rfl ?_
  try show aw _ _ _ _ _ _
  refine aw_seq ?_
  refine aw_seq ?_
  refine aw_reg ?_
  refine st_op (ev_move rfl) rfl rfl rfl ?_
  refine st_op (ev_int rfl rfl rfl) rfl rfl rfl ?_
  try show aw _ _ _ _ _ _
  by_cases hc3 : (decide (n < 0)) = true
  · refine aw_condT hc3 rfl ?_
    try show aw _ _ _ _ _ _
    have hc3 := of_decide_eq_true hc3
    refine aw_reg ?_
    refine st_op (ev_move rfl) rfl rfl rfl ?_
    have hw4 : 0 ≤ (Go.bits .xor .u64 (IntKind.max .u64) (IntKind.u64.wrap ((IntKind.u64.wrap n) * 2))) ∧ (Go.bits .xor .u64 (IntKind.max .u64) (IntKind.u64.wrap ((IntKind.u64.wrap n) * 2))) ≤ 18446744073709551615 := bitsU64 _ _ _
    refine st_op (ev_comU rfl rfl) rfl rfl rfl ?_
    refine st_op (ev_assign rfl) rfl rfl rfl ?_
    try show aw _ _ _ _ _ _
    refine aw_seq ?_
    refine aw_reg ?_
    refine st_op (ev_assign rfl) rfl rfl rfl ?_
    try show aw _ _ _ _ _ _
    refine aw_seq ?_
    refine aw_block ?_
    have hz5 : (Go.bits .xor .u64 (IntKind.max .u64) (IntKind.u64.wrap ((IntKind.u64.wrap n) * 2))) = ((Spec.zig n : Nat) : Int) := by first | (rw [shl1_u64]; (try rw [Spec.not_u64 (by omega) (by omega)]); unfold Spec.zig; split <;> omega) | (simp only [Spec.wrap_u64]; (try rw [Spec.not_u64 (by omega) (by omega)]); unfold Spec.zig; split <;> omega)
    have hz5l := Spec.zig_lt hn.1 hn.2
    have hm8 : My H H none 0 1 (([] : List Int).map u8c) := .nil
    refine aw_keep [3, 4] (l' := (.cons 3 (.int .u64 (Go.bits .xor .u64 (IntKind.max .u64) (IntKind.u64.wrap ((IntKind.u64.wrap n) * 2)))) (.cons 4 (.slice none 0 0) .nil))) (by repeat (first | exact Up.done | refine Up.then ?_ | refine Up.inBlock ?_)) rfl ?_
    refine aw_iter (α := Int × Option Addr × Nat × List Int × Nat × Heap) (fun a => a.2.2.2.2.1) (fun a => (.cons 3 (.int .u64 a.1) (.cons 4 (.slice a.2.1 a.2.2.2.1.length a.2.2.1) .nil))) (fun a => a.2.2.2.2.2) (fun a => (a.1 = (a.2.2.2.2.1 : Int)) ∧ (a.2.2.2.1 ++ Spec.enc a.2.2.2.2.1 = [] ++ Spec.enc (Spec.zig n)) ∧ (a.2.2.2.2.1 < 18446744073709551616) ∧ (a.2.2.2.1.length + (Spec.enc a.2.2.2.2.1).length ≤ 1099511627770) ∧ (0 ≤ a.1 ∧ a.1 ≤ 18446744073709551615) ∧ (My H a.2.2.2.2.2 a.2.1 a.2.2.1 1 (a.2.2.2.1.map u8c)) ∧ (Ext H a.2.2.2.2.2)) ((Go.bits .xor .u64 (IntKind.max .u64) (IntKind.u64.wrap ((IntKind.u64.wrap n) * 2))), none, 0, ([] : List Int), (Spec.zig n), H) ⟨(show (Go.bits .xor .u64 (IntKind.max .u64) (IntKind.u64.wrap ((IntKind.u64.wrap n) * 2))) = ((Spec.zig n) : Int) from hz5), (show ([] : List Int) ++ Spec.enc (Spec.zig n) = [] ++ Spec.enc (Spec.zig n) from rfl), (show (Spec.zig n) < 18446744073709551616 from hz5l), (show ([] : List Int).length + (Spec.enc (Spec.zig n)).length ≤ 1099511627770 from (by have := Spec.enc_len10 hz5l; simp; omega)), (show 0 ≤ (Go.bits .xor .u64 (IntKind.max .u64) (IntKind.u64.wrap ((IntKind.u64.wrap n) * 2))) ∧ (Go.bits .xor .u64 (IntKind.max .u64) (IntKind.u64.wrap ((IntKind.u64.wrap n) * 2))) ≤ 18446744073709551615 from ⟨by omega, by omega⟩), (show My H H none 0 1 (([] : List Int).map u8c) from hm8), (show Ext H H from (Ext.refl H))⟩ ?_
    rintro ⟨v, A, cp, l, u, Hl6⟩ ⟨hv, hl, hu, hL, hn7, hm9, hxl10⟩ ih11
    replace hv : v = (u : Int) := hv
    replace hl : l ++ Spec.enc u = [] ++ Spec.enc (Spec.zig n) := hl
    replace hu : u < 18446744073709551616 := hu
    replace hL : l.length + (Spec.enc u).length ≤ 1099511627770 := hL
    replace hn7 : 0 ≤ v ∧ v ≤ 18446744073709551615 := hn7
    replace hm9 : My H Hl6 A cp 1 (l.map u8c) := hm9
    replace hxl10 : Ext H Hl6 := hxl10
    show aw _ _ _ (RL _ (.cons 3 (.int .u64 v) (.cons 4 (.slice A l.length cp) .nil))) Hl6 _
    have Hl6n : H.next ≤ Hl6.next := hxl10.1
    have hpos := Spec.enc_pos u
    refine aw_seq ?_
    refine aw_seq ?_
    refine aw_reg ?_
    refine st_op (ev_move rfl) rfl rfl rfl ?_
    refine st_op (ev_int rfl rfl rfl) rfl rfl rfl ?_
    try show aw _ _ _ _ _ _
    by_cases hc12 : (decide (v ≥ 128)) = true
    · refine aw_condT hc12 rfl ?_
      try show aw _ _ _ _ _ _
      have hc12 := of_decide_eq_true hc12
      refine aw_skip ?_
      try show aw _ _ _ _ _ _
      refine aw_block ?_
      refine aw_seq ?_
      refine aw_reg ?_
      refine st_op (ev_move rfl) rfl rfl rfl ?_
      refine st_op (ev_move rfl) rfl rfl rfl ?_
      refine st_op (ev_remN (a := v) (c := 128) rfl rfl (by omega) (by decide) ) rfl rfl rfl ?_
      refine st_op (ev_intN (c := (v % 128) + 128) rfl rfl rfl (wrU64 (by omega) (by omega))) rfl rfl rfl ?_
      refine st_op (ev_convI Try.underlying91 Try.underlying5 rfl (wrU8 (by omega) (by omega))) rfl rfl rfl ?_
      obtain ⟨b13, H14, he15, b13e, H14n_, hm17, f16⟩ := mem_lit Hl6 (xs := [.int .u8 ((v % 128) + 128)]) (m := 1) (rows := [[.int .u8 ((v % 128) + 128)]]) rfl eok30 (by decide) (by decide) zf5 rfl (allLen rfl) rfl
      replace hm17 : My Hl6 H14 (some ⟨b13, 0, none⟩) 1 1 ([(v % 128) + 128].map u8c) := hm17
      refine st_op (he15 _ _ _ _ _ _ _ _ rfl) rfl rfl rfl ?_
      have hx18 : Ext Hl6 H14 := Ext.new (by omega) H14n_ f16
      have H14n : Hl6.next ≤ H14.next := hx18.1
      have h19 := My.ext hm9 hx18
      obtain ⟨A20, c21, H22, W23, he24, hm25, hf26⟩ := mem_append (f := u8c) (old := l) (new := [(v % 128) + 128]) (m := l.length) (mx := 1) (c := cp) (by first | rfl | simp) (by first | rfl | simp) eok30 (by decide) hm9 h19 (by omega) (((My.row hm17)).srcF (by decide) (by first | rfl | simp)) rfl u8c_len u8c_one (by first | omega | (simp only [List.length_append, List.length_cons, List.length_nil, List.length_map, List.length_set, List.length_replicate, Spec.bytesOf_length]; omega) | (simp; omega)) (by first | omega | (simp only [List.length_append, List.length_cons, List.length_nil, List.length_map, List.length_set, List.length_replicate, Spec.bytesOf_length]; omega) | (simp; omega))
      refine st_op (he24 _ _ _ _ _ _ _ _ _ _ rfl rfl isrow30) rfl rfl rfl ?_
      have H22n : H14.next ≤ H22.next := hf26.1
      refine st_op (ev_assign rfl) rfl rfl rfl ?_
      try show aw _ _ _ _ _ _
      refine aw_reg ?_
      refine st_op (ev_move rfl) rfl rfl rfl ?_
      refine st_op (ev_quoN (a := v) (c := 128) rfl rfl (by omega) (by decide) (wrU64 (by omega) (by omega))) rfl rfl rfl ?_
      refine st_op (ev_assign rfl) rfl rfl rfl ?_
      try show aw _ _ _ _ _ _
      have hx27 : Ext H H22 := (Ext.then (Ext.trans hxl10 hx18) hf26 (fun q hq e => by omega))
      refine aw_keep [3, 4] (l' := (.cons 3 (.int .u64 (v / 128)) (.cons 4 (.slice A20 ((l ++ [(v % 128) + 128]).length) c21) .nil))) (by repeat (first | exact Up.done | refine Up.then ?_ | refine Up.inBlock ?_)) rfl ?_
      exact ih11 ((v / 128), A20, c21, (l ++ [(v % 128) + 128]), (u / 128), H22) ⟨(show (v / 128) = ((u / 128) : Int) from (by subst hv; omega)), (show (l ++ [(v % 128) + 128]) ++ Spec.enc (u / 128) = [] ++ Spec.enc (Spec.zig n) from (by rw [← hl, Spec.enc_step (u := u) (by omega), List.append_assoc]; congr 2; subst hv; rw [List.cons_append, List.nil_append]; congr 1 <;> first | (rw [IntKind.wrap_u8, Spec.or128 (by omega) (by omega)]; omega) | (rw [IntKind.wrap_u8]; omega) | omega)), (show (u / 128) < 18446744073709551616 from (by omega)), (show (l ++ [(v % 128) + 128]).length + (Spec.enc (u / 128)).length ≤ 1099511627770 from (by rw [Spec.enc_step (u := u) (by omega), List.length_cons] at hL; rw [List.length_append, List.length_singleton]; omega)), (show 0 ≤ (v / 128) ∧ (v / 128) ≤ 18446744073709551615 from ⟨by omega, by omega⟩), (show My H H22 A20 c21 1 ((l ++ [(v % 128) + 128]).map u8c) from hm25), (show Ext H H22 from hx27)⟩ (by simp only; omega)
    · rw [Bool.not_eq_true] at hc12; refine aw_condF hc12 rfl ?_
      try show aw _ _ _ _ _ _
      have hc12 := of_decide_eq_false hc12
      refine aw_exit ?_
      try show aw _ _ _ _ _ _
      refine aw_seq ?_
      refine aw_reg ?_
      refine st_op (ev_move rfl) rfl rfl rfl ?_
      refine st_op (ev_move rfl) rfl rfl rfl ?_
      refine st_op (ev_convI Try.underlying91 Try.underlying5 rfl (wrU8 (by omega) (by omega))) rfl rfl rfl ?_
      obtain ⟨b28, H29, he30, b28e, H29n_, hm32, f31⟩ := mem_lit Hl6 (xs := [.int .u8 v]) (m := 1) (rows := [[.int .u8 v]]) rfl eok30 (by decide) (by decide) zf5 rfl (allLen rfl) rfl
      replace hm32 : My Hl6 H29 (some ⟨b28, 0, none⟩) 1 1 ([v].map u8c) := hm32
      refine st_op (he30 _ _ _ _ _ _ _ _ rfl) rfl rfl rfl ?_
      have hx33 : Ext Hl6 H29 := Ext.new (by omega) H29n_ f31
      have H29n : Hl6.next ≤ H29.next := hx33.1
      have h34 := My.ext hm9 hx33
      obtain ⟨A35, c36, H37, W38, he39, hm40, hf41⟩ := mem_append (f := u8c) (old := l) (new := [v]) (m := l.length) (mx := 1) (c := cp) (by first | rfl | simp) (by first | rfl | simp) eok30 (by decide) hm9 h34 (by omega) (((My.row hm32)).srcF (by decide) (by first | rfl | simp)) rfl u8c_len u8c_one (by first | omega | (simp only [List.length_append, List.length_cons, List.length_nil, List.length_map, List.length_set, List.length_replicate, Spec.bytesOf_length]; omega) | (simp; omega)) (by first | omega | (simp only [List.length_append, List.length_cons, List.length_nil, List.length_map, List.length_set, List.length_replicate, Spec.bytesOf_length]; omega) | (simp; omega))
      refine st_op (he39 _ _ _ _ _ _ _ _ _ _ rfl rfl isrow30) rfl rfl rfl ?_
      have H37n : H29.next ≤ H37.next := hf41.1
      refine st_op (ev_assign rfl) rfl rfl rfl ?_
      try show aw _ _ _ _ _ _
      refine aw_ret ?_
      have hx42 : Ext H H37 := (Ext.then (Ext.trans hxl10 hx33) hf41 (fun q hq e => by omega))
      have hres : (Spec.enc (Spec.zig n)) = (l ++ [v]) := by rw [← List.nil_append (Spec.enc _), ← hl, Spec.enc_small (u := u) (by omega)]; congr 2; subst hv; first | done | omega | (rw [IntKind.wrap_u8]; omega)
      exact ⟨.slice A35 ((l ++ [v]).length) c36, rfl, A35, c36, by rw [hres]; first | done | rfl | simp, (by rw [hres]; exact hm40), (by exact Spec.zig_i64 hn), hx42⟩
  · rw [Bool.not_eq_true] at hc3; refine aw_condF hc3 rfl ?_
    try show aw _ _ _ _ _ _
    have hc3 := of_decide_eq_false hc3
    refine aw_skip ?_
    try show aw _ _ _ _ _ _
    refine aw_seq ?_
    refine aw_reg ?_
    refine st_op (ev_assign rfl) rfl rfl rfl ?_
    try show aw _ _ _ _ _ _
    refine aw_seq ?_
    refine aw_block ?_
    have hz43 : (IntKind.u64.wrap ((IntKind.u64.wrap n) * 2)) = ((Spec.zig n : Nat) : Int) := by first | (rw [shl1_u64]; (try rw [Spec.not_u64 (by omega) (by omega)]); unfold Spec.zig; split <;> omega) | (simp only [Spec.wrap_u64]; (try rw [Spec.not_u64 (by omega) (by omega)]); unfold Spec.zig; split <;> omega)
    have hz43l := Spec.zig_lt hn.1 hn.2
    have hm46 : My H H none 0 1 (([] : List Int).map u8c) := .nil
    refine aw_keep [3, 4] (l' := (.cons 3 (.int .u64 (IntKind.u64.wrap ((IntKind.u64.wrap n) * 2))) (.cons 4 (.slice none 0 0) .nil))) (by repeat (first | exact Up.done | refine Up.then ?_ | refine Up.inBlock ?_)) rfl ?_
    refine aw_iter (α := Int × Option Addr × Nat × List Int × Nat × Heap) (fun a => a.2.2.2.2.1) (fun a => (.cons 3 (.int .u64 a.1) (.cons 4 (.slice a.2.1 a.2.2.2.1.length a.2.2.1) .nil))) (fun a => a.2.2.2.2.2) (fun a => (a.1 = (a.2.2.2.2.1 : Int)) ∧ (a.2.2.2.1 ++ Spec.enc a.2.2.2.2.1 = [] ++ Spec.enc (Spec.zig n)) ∧ (a.2.2.2.2.1 < 18446744073709551616) ∧ (a.2.2.2.1.length + (Spec.enc a.2.2.2.2.1).length ≤ 1099511627770) ∧ (0 ≤ a.1 ∧ a.1 ≤ 18446744073709551615) ∧ (My H a.2.2.2.2.2 a.2.1 a.2.2.1 1 (a.2.2.2.1.map u8c)) ∧ (Ext H a.2.2.2.2.2)) ((IntKind.u64.wrap ((IntKind.u64.wrap n) * 2)), none, 0, ([] : List Int), (Spec.zig n), H) ⟨(show (IntKind.u64.wrap ((IntKind.u64.wrap n) * 2)) = ((Spec.zig n) : Int) from hz43), (show ([] : List Int) ++ Spec.enc (Spec.zig n) = [] ++ Spec.enc (Spec.zig n) from rfl), (show (Spec.zig n) < 18446744073709551616 from hz43l), (show ([] : List Int).length + (Spec.enc (Spec.zig n)).length ≤ 1099511627770 from (by have := Spec.enc_len10 hz43l; simp; omega)), (show 0 ≤ (IntKind.u64.wrap ((IntKind.u64.wrap n) * 2)) ∧ (IntKind.u64.wrap ((IntKind.u64.wrap n) * 2)) ≤ 18446744073709551615 from ⟨by omega, by omega⟩), (show My H H none 0 1 (([] : List Int).map u8c) from hm46), (show Ext H H from (Ext.refl H))⟩ ?_
    rintro ⟨v, A, cp, l, u, Hl44⟩ ⟨hv, hl, hu, hL, hn45, hm47, hxl48⟩ ih49
    replace hv : v = (u : Int) := hv
    replace hl : l ++ Spec.enc u = [] ++ Spec.enc (Spec.zig n) := hl
    replace hu : u < 18446744073709551616 := hu
    replace hL : l.length + (Spec.enc u).length ≤ 1099511627770 := hL
    replace hn45 : 0 ≤ v ∧ v ≤ 18446744073709551615 := hn45
    replace hm47 : My H Hl44 A cp 1 (l.map u8c) := hm47
    replace hxl48 : Ext H Hl44 := hxl48
    show aw _ _ _ (RL _ (.cons 3 (.int .u64 v) (.cons 4 (.slice A l.length cp) .nil))) Hl44 _
    have Hl44n : H.next ≤ Hl44.next := hxl48.1
    have hpos := Spec.enc_pos u
    refine aw_seq ?_
    refine aw_seq ?_
    refine aw_reg ?_
    refine st_op (ev_move rfl) rfl rfl rfl ?_
    refine st_op (ev_int rfl rfl rfl) rfl rfl rfl ?_
    try show aw _ _ _ _ _ _
    by_cases hc50 : (decide (v ≥ 128)) = true
    · refine aw_condT hc50 rfl ?_
      try show aw _ _ _ _ _ _
      have hc50 := of_decide_eq_true hc50
      refine aw_skip ?_
      try show aw _ _ _ _ _ _
      refine aw_block ?_
      refine aw_seq ?_
      refine aw_reg ?_
      refine st_op (ev_move rfl) rfl rfl rfl ?_
      refine st_op (ev_move rfl) rfl rfl rfl ?_
      refine st_op (ev_remN (a := v) (c := 128) rfl rfl (by omega) (by decide) ) rfl rfl rfl ?_
      refine st_op (ev_intN (c := (v % 128) + 128) rfl rfl rfl (wrU64 (by omega) (by omega))) rfl rfl rfl ?_
      refine st_op (ev_convI Try.underlying91 Try.underlying5 rfl (wrU8 (by omega) (by omega))) rfl rfl rfl ?_
      obtain ⟨b51, H52, he53, b51e, H52n_, hm55, f54⟩ := mem_lit Hl44 (xs := [.int .u8 ((v % 128) + 128)]) (m := 1) (rows := [[.int .u8 ((v % 128) + 128)]]) rfl eok30 (by decide) (by decide) zf5 rfl (allLen rfl) rfl
      replace hm55 : My Hl44 H52 (some ⟨b51, 0, none⟩) 1 1 ([(v % 128) + 128].map u8c) := hm55
      refine st_op (he53 _ _ _ _ _ _ _ _ rfl) rfl rfl rfl ?_
      have hx56 : Ext Hl44 H52 := Ext.new (by omega) H52n_ f54
      have H52n : Hl44.next ≤ H52.next := hx56.1
      have h57 := My.ext hm47 hx56
      obtain ⟨A58, c59, H60, W61, he62, hm63, hf64⟩ := mem_append (f := u8c) (old := l) (new := [(v % 128) + 128]) (m := l.length) (mx := 1) (c := cp) (by first | rfl | simp) (by first | rfl | simp) eok30 (by decide) hm47 h57 (by omega) (((My.row hm55)).srcF (by decide) (by first | rfl | simp)) rfl u8c_len u8c_one (by first | omega | (simp only [List.length_append, List.length_cons, List.length_nil, List.length_map, List.length_set, List.length_replicate, Spec.bytesOf_length]; omega) | (simp; omega)) (by first | omega | (simp only [List.length_append, List.length_cons, List.length_nil, List.length_map, List.length_set, List.length_replicate, Spec.bytesOf_length]; omega) | (simp; omega))
      refine st_op (he62 _ _ _ _ _ _ _ _ _ _ rfl rfl isrow30) rfl rfl rfl ?_
      have H60n : H52.next ≤ H60.next := hf64.1
      refine st_op (ev_assign rfl) rfl rfl rfl ?_
      try show aw _ _ _ _ _ _
      refine aw_reg ?_
      refine st_op (ev_move rfl) rfl rfl rfl ?_
      refine st_op (ev_quoN (a := v) (c := 128) rfl rfl (by omega) (by decide) (wrU64 (by omega) (by omega))) rfl rfl rfl ?_
      refine st_op (ev_assign rfl) rfl rfl rfl ?_
      try show aw _ _ _ _ _ _
      have hx65 : Ext H H60 := (Ext.then (Ext.trans hxl48 hx56) hf64 (fun q hq e => by omega))
      refine aw_keep [3, 4] (l' := (.cons 3 (.int .u64 (v / 128)) (.cons 4 (.slice A58 ((l ++ [(v % 128) + 128]).length) c59) .nil))) (by repeat (first | exact Up.done | refine Up.then ?_ | refine Up.inBlock ?_)) rfl ?_
      exact ih49 ((v / 128), A58, c59, (l ++ [(v % 128) + 128]), (u / 128), H60) ⟨(show (v / 128) = ((u / 128) : Int) from (by subst hv; omega)), (show (l ++ [(v % 128) + 128]) ++ Spec.enc (u / 128) = [] ++ Spec.enc (Spec.zig n) from (by rw [← hl, Spec.enc_step (u := u) (by omega), List.append_assoc]; congr 2; subst hv; rw [List.cons_append, List.nil_append]; congr 1 <;> first | (rw [IntKind.wrap_u8, Spec.or128 (by omega) (by omega)]; omega) | (rw [IntKind.wrap_u8]; omega) | omega)), (show (u / 128) < 18446744073709551616 from (by omega)), (show (l ++ [(v % 128) + 128]).length + (Spec.enc (u / 128)).length ≤ 1099511627770 from (by rw [Spec.enc_step (u := u) (by omega), List.length_cons] at hL; rw [List.length_append, List.length_singleton]; omega)), (show 0 ≤ (v / 128) ∧ (v / 128) ≤ 18446744073709551615 from ⟨by omega, by omega⟩), (show My H H60 A58 c59 1 ((l ++ [(v % 128) + 128]).map u8c) from hm63), (show Ext H H60 from hx65)⟩ (by simp only; omega)
    · rw [Bool.not_eq_true] at hc50; refine aw_condF hc50 rfl ?_
      try show aw _ _ _ _ _ _
      have hc50 := of_decide_eq_false hc50
      refine aw_exit ?_
      try show aw _ _ _ _ _ _
      refine aw_seq ?_
      refine aw_reg ?_
      refine st_op (ev_move rfl) rfl rfl rfl ?_
      refine st_op (ev_move rfl) rfl rfl rfl ?_
      refine st_op (ev_convI Try.underlying91 Try.underlying5 rfl (wrU8 (by omega) (by omega))) rfl rfl rfl ?_
      obtain ⟨b66, H67, he68, b66e, H67n_, hm70, f69⟩ := mem_lit Hl44 (xs := [.int .u8 v]) (m := 1) (rows := [[.int .u8 v]]) rfl eok30 (by decide) (by decide) zf5 rfl (allLen rfl) rfl
      replace hm70 : My Hl44 H67 (some ⟨b66, 0, none⟩) 1 1 ([v].map u8c) := hm70
      refine st_op (he68 _ _ _ _ _ _ _ _ rfl) rfl rfl rfl ?_
      have hx71 : Ext Hl44 H67 := Ext.new (by omega) H67n_ f69
      have H67n : Hl44.next ≤ H67.next := hx71.1
      have h72 := My.ext hm47 hx71
      obtain ⟨A73, c74, H75, W76, he77, hm78, hf79⟩ := mem_append (f := u8c) (old := l) (new := [v]) (m := l.length) (mx := 1) (c := cp) (by first | rfl | simp) (by first | rfl | simp) eok30 (by decide) hm47 h72 (by omega) (((My.row hm70)).srcF (by decide) (by first | rfl | simp)) rfl u8c_len u8c_one (by first | omega | (simp only [List.length_append, List.length_cons, List.length_nil, List.length_map, List.length_set, List.length_replicate, Spec.bytesOf_length]; omega) | (simp; omega)) (by first | omega | (simp only [List.length_append, List.length_cons, List.length_nil, List.length_map, List.length_set, List.length_replicate, Spec.bytesOf_length]; omega) | (simp; omega))
      refine st_op (he77 _ _ _ _ _ _ _ _ _ _ rfl rfl isrow30) rfl rfl rfl ?_
      have H75n : H67.next ≤ H75.next := hf79.1
      refine st_op (ev_assign rfl) rfl rfl rfl ?_
      try show aw _ _ _ _ _ _
      refine aw_ret ?_
      have hx80 : Ext H H75 := (Ext.then (Ext.trans hxl48 hx71) hf79 (fun q hq e => by omega))
      have hres : (Spec.enc (Spec.zig n)) = (l ++ [v]) := by rw [← List.nil_append (Spec.enc _), ← hl, Spec.enc_small (u := u) (by omega)]; congr 2; subst hv; first | done | omega | (rw [IntKind.wrap_u8]; omega)
      exact ⟨.slice A73 ((l ++ [v]).length) c74, rfl, A73, c74, by rw [hres]; first | done | rfl | simp, (by rw [hres]; exact hm78), (by exact Spec.zig_i64 hn), hx80⟩
theorem ref1_Sum_spec (H : Heap) (bA : Option Addr) (b : List Int) (bc : Nat) (hb : Row H bA bc 1 (b.map u8c)) (cb : b.length ≤ bc) (lb : b.length ≤ 1099511627776) (bb : Spec.Bytes b) : ∃ v H', Spec Try.prog 49 [.slice bA b.length bc] H v H' ∧ ((v = .int .u32 ((Spec.crcMore 0 b : Nat) : Int)) ∧ (0 ≤ ((Spec.crcMore 0 b : Nat) : Int) ∧ ((Spec.crcMore 0 b : Nat) : Int) ≤ 4294967295) ∧ (Ext H H')) := by
  refine spec_go1 E0_ok 33 (f := 49) Try.func49 rfl rfl rfl ?_
  refine aw_seq ?_
  refine aw_reg ?_
  refine st_op (ev_assign rfl) rfl rfl rfl ?_
  try show aw _ _ _ _ _ _
  refine aw_seq ?_
  refine aw_reg ?_
  refine st_op (ev_assign rfl) rfl rfl rfl ?_
  try show aw _ _ _ _ _ _
  refine aw_seq ?_
  refine aw_seq ?_
  refine aw_reg ?_
  refine st_op (ev_assign rfl) rfl rfl rfl ?_
  try show aw _ _ _ _ _ _
  refine aw_block ?_
  refine aw_keep [0, 3, 4] (l' := (.cons 0 (.slice bA b.length bc) (.cons 3 (.int .u32 4294967295) (.cons 4 (.int .i64 0) .nil)))) (by repeat (first | exact Up.done | refine Up.then ?_ | refine Up.inBlock ?_)) rfl ?_
  refine aw_iter (α := Nat × Int × Heap) (fun a => b.length - a.1) (fun a => (.cons 0 (.slice bA b.length bc) (.cons 3 (.int .u32 a.2.1) (.cons 4 (.int .i64 (a.1 : Int)) .nil)))) (fun a => a.2.2) (fun a => (a.1 ≤ b.length) ∧ (Spec.crcRun 4294967295 b = Spec.crcRun a.2.1.toNat (b.drop a.1)) ∧ (0 ≤ a.2.1 ∧ a.2.1 ≤ 4294967295) ∧ (Ext H a.2.2)) (0, (4294967295 : Int), H) ⟨(show 0 ≤ b.length from Nat.zero_le _), (show Spec.crcRun 4294967295 b = Spec.crcRun (4294967295 : Int).toNat (b.drop 0) from (by first | rfl | (rw [Spec.not_u32 hs.1 (by omega), List.drop_zero]; congr 1; omega))), (show 0 ≤ (4294967295 : Int) ∧ (4294967295 : Int) ≤ 4294967295 from ⟨by omega, by omega⟩), (show Ext H H from (Ext.refl H))⟩ ?_
  rintro ⟨i, x, Hl1⟩ ⟨hi, hx, hn2, hxl3⟩ ih4
  replace hi : i ≤ b.length := hi
  replace hx : Spec.crcRun 4294967295 b = Spec.crcRun x.toNat (b.drop i) := hx
  replace hn2 : 0 ≤ x ∧ x ≤ 4294967295 := hn2
  replace hxl3 : Ext H Hl1 := hxl3
  show aw _ _ _ (RL _ (.cons 0 (.slice bA b.length bc) (.cons 3 (.int .u32 x) (.cons 4 (.int .i64 (i : Int)) .nil)))) Hl1 _
  have Hl1n : H.next ≤ Hl1.next := hxl3.1
  refine aw_seq ?_
  refine aw_seq ?_
  refine aw_reg ?_
  refine st_op (ev_move rfl) rfl rfl rfl ?_
  refine st_op (ev_move rfl) rfl rfl rfl ?_
  refine st_op (ev_lenSl rfl Try.underlying30) rfl rfl rfl ?_
  refine st_op (ev_int rfl rfl rfl) rfl rfl rfl ?_
  try show aw _ _ _ _ _ _
  by_cases hc5 : (decide ((i : Int) < (b.length : Int))) = true
  · refine aw_condT hc5 rfl ?_
    try show aw _ _ _ _ _ _
    have hc5 := of_decide_eq_true hc5
    refine aw_skip ?_
    try show aw _ _ _ _ _ _
    refine aw_seq ?_
    refine aw_block ?_
    refine aw_seq ?_
    refine aw_reg ?_
    refine st_op (ev_move rfl) rfl rfl rfl ?_
    refine st_op (ev_move rfl) rfl rfl rfl ?_
    refine st_op (ev_move rfl) rfl rfl rfl ?_
    have h6 := Row.ext hb hxl3
    have hi7 : 0 ≤ ((i : Int) : Int) := by omega
    have hi8 : ((i : Int) : Int) < ((b.length : Nat) : Int) := by first | omega | (simp only [List.length_append, List.length_cons, List.length_nil, List.length_map, List.length_set, List.length_replicate, Spec.bytesOf_length]; omega) | (simp; omega)
    obtain ⟨x9, hx10⟩ : ∃ e, b[i]? = some e := ⟨_, List.getElem?_eq_getElem (by first | omega | (simp only [List.length_append, List.length_cons, List.length_nil, List.length_map, List.length_set, List.length_replicate, Spec.bytesOf_length]; omega) | (simp; omega))⟩
    have x9b : 0 ≤ x9 ∧ x9 < 256 := ((by first | assumption | exact Spec.Bytes.nil | exact Spec.bytes_of _ | (repeat' first | assumption | exact Spec.Bytes.nil | exact Spec.bytes_of _ | exact Spec.enc_bytes _ | exact Spec.four_bytes _ | exact Spec.sealF_bytes (by assumption) | apply Spec.Bytes.append | apply Spec.Bytes.cons (by omega) | apply Spec.Bytes.take | apply Spec.Bytes.drop)) : Spec.Bytes b) _ (List.mem_of_getElem? hx10)
    refine st_op (ev_at rfl rfl h6 (getMap u8c hx10) (by first | rfl | omega | simp) hi7 hi8 el30) rfl rfl rfl ?_
    refine st_op (ev_atL rfl h6 (getMap u8c hx10) one5 rfl) rfl rfl rfl ?_
    refine st_op (ev_convI Try.underlying5 Try.underlying87 rfl (wrU32 (by omega) (by omega))) rfl rfl rfl ?_
    have hw11 : 0 ≤ (Go.bits .xor .u32 x x9) ∧ (Go.bits .xor .u32 x x9) ≤ 4294967295 := bitsU32 _ _ _
    refine st_op (ev_bits rfl rfl rfl) rfl rfl rfl ?_
    refine st_op (ev_assign rfl) rfl rfl rfl ?_
    try show aw _ _ _ _ _ _
    refine aw_seq ?_
    refine aw_reg ?_
    refine st_op (ev_assign rfl) rfl rfl rfl ?_
    try show aw _ _ _ _ _ _
    refine aw_block ?_
    refine aw_keep [0, 3, 4, 5] (l' := (.cons 0 (.slice bA b.length bc) (.cons 3 (.int .u32 (Go.bits .xor .u32 x x9)) (.cons 4 (.int .i64 (i : Int)) (.cons 5 (.int .i64 0) .nil))))) (by repeat (first | exact Up.done | refine Up.then ?_ | refine Up.inBlock ?_)) rfl ?_
    refine aw_iter (α := Nat × Int × Heap) (fun a => 8 - a.1) (fun a => (.cons 0 (.slice bA b.length bc) (.cons 3 (.int .u32 a.2.1) (.cons 4 (.int .i64 (i : Int)) (.cons 5 (.int .i64 (a.1 : Int)) .nil))))) (fun a => a.2.2) (fun a => (a.1 ≤ 8) ∧ (Spec.crcSteps 8 (Go.bits .xor .u32 x x9).toNat = Spec.crcSteps (8 - a.1) a.2.1.toNat) ∧ (0 ≤ a.2.1 ∧ a.2.1 ≤ 4294967295) ∧ (Ext Hl1 a.2.2)) (0, (Go.bits .xor .u32 x x9), Hl1) ⟨(show 0 ≤ 8 from (by decide)), (show Spec.crcSteps 8 (Go.bits .xor .u32 x x9).toNat = Spec.crcSteps (8 - 0) (Go.bits .xor .u32 x x9).toNat from rfl), (show 0 ≤ (Go.bits .xor .u32 x x9) ∧ (Go.bits .xor .u32 x x9) ≤ 4294967295 from ⟨by omega, by omega⟩), (show Ext Hl1 Hl1 from (Ext.refl Hl1))⟩ ?_
    rintro ⟨j, y, Hl12⟩ ⟨hj, hy, hn13, hxl14⟩ ih15
    replace hj : j ≤ 8 := hj
    replace hy : Spec.crcSteps 8 (Go.bits .xor .u32 x x9).toNat = Spec.crcSteps (8 - j) y.toNat := hy
    replace hn13 : 0 ≤ y ∧ y ≤ 4294967295 := hn13
    replace hxl14 : Ext Hl1 Hl12 := hxl14
    show aw _ _ _ (RL _ (.cons 0 (.slice bA b.length bc) (.cons 3 (.int .u32 y) (.cons 4 (.int .i64 (i : Int)) (.cons 5 (.int .i64 (j : Int)) .nil))))) Hl12 _
    have Hl12n : Hl1.next ≤ Hl12.next := hxl14.1
    have hn : 0 ≤ y ∧ y ≤ 4294967295 := by omega
    refine aw_seq ?_
    refine aw_seq ?_
    refine aw_reg ?_
    refine st_op (ev_move rfl) rfl rfl rfl ?_
    refine st_op (ev_int rfl rfl rfl) rfl rfl rfl ?_
    try show aw _ _ _ _ _ _
    by_cases hc16 : (decide ((j : Int) < 8)) = true
    · refine aw_condT hc16 rfl ?_
      try show aw _ _ _ _ _ _
      have hc16 := of_decide_eq_true hc16
      refine aw_skip ?_
      try show aw _ _ _ _ _ _
      refine aw_seq ?_
      refine aw_block ?_
      refine aw_seq ?_
      refine aw_reg ?_
      refine st_op (ev_move rfl) rfl rfl rfl ?_
      refine st_op (ev_remN (a := y) (c := 2) rfl rfl (by omega) (by decide) ) rfl rfl rfl ?_
      refine st_op (ev_int rfl rfl rfl) rfl rfl rfl ?_
      try show aw _ _ _ _ _ _
      by_cases hc17 : ((y % 2) == 1) = true
      · refine aw_condT hc17 rfl ?_
        try show aw _ _ _ _ _ _
        have hc17 := eq_of_beq hc17
        refine aw_reg ?_
        refine st_op (ev_move rfl) rfl rfl rfl ?_
        refine st_op (ev_shr (a := y) (c := 2) rfl rfl (by decide) (by decide)) rfl rfl rfl ?_
        have hw18 : 0 ≤ (Go.bits .xor .u32 (y / 2) 3988292384) ∧ (Go.bits .xor .u32 (y / 2) 3988292384) ≤ 4294967295 := bitsU32 _ _ _
        refine st_op (ev_bits rfl rfl rfl) rfl rfl rfl ?_
        refine st_op (ev_assign rfl) rfl rfl rfl ?_
        try show aw _ _ _ _ _ _
        refine aw_reg ?_
        refine st_op (ev_move rfl) rfl rfl rfl ?_
        refine st_op (ev_int64 (c := (j : Int) + 1) rfl rfl rfl (by omega) (by omega)) rfl rfl rfl ?_
        refine st_op (ev_assign rfl) rfl rfl rfl ?_
        try show aw _ _ _ _ _ _
        refine aw_keep [0, 3, 4, 5] (l' := (.cons 0 (.slice bA b.length bc) (.cons 3 (.int .u32 (Go.bits .xor .u32 (y / 2) 3988292384)) (.cons 4 (.int .i64 (i : Int)) (.cons 5 (.int .i64 ((j : Int) + 1)) .nil))))) (by repeat (first | exact Up.done | refine Up.then ?_ | refine Up.inBlock ?_)) rfl ?_
        exact ih15 (j + 1, (Go.bits .xor .u32 (y / 2) 3988292384), Hl12) ⟨(show (j + 1) ≤ 8 from (by omega)), (show Spec.crcSteps 8 (Go.bits .xor .u32 x x9).toNat = Spec.crcSteps (8 - (j + 1)) (Go.bits .xor .u32 (y / 2) 3988292384).toNat from (by rw [hy, show 8 - j = (8 - (j + 1)) + 1 by omega]; show Spec.crcSteps (8 - (j + 1)) (Spec.crcStep y.toNat) = _; congr 1; first | (rw [(Spec.crc_if hn).1 (by omega)]; rfl) | (rw [(Spec.crc_if hn).2 (by omega)]; rfl))), (show 0 ≤ (Go.bits .xor .u32 (y / 2) 3988292384) ∧ (Go.bits .xor .u32 (y / 2) 3988292384) ≤ 4294967295 from ⟨by omega, by omega⟩), (show Ext Hl1 Hl12 from hxl14)⟩ (by simp only; omega)
      · rw [Bool.not_eq_true] at hc17; refine aw_condF hc17 rfl ?_
        try show aw _ _ _ _ _ _
        have hc17 := ne_of_beq_false hc17
        refine aw_reg ?_
        refine st_op (ev_move rfl) rfl rfl rfl ?_
        refine st_op (ev_shr (a := y) (c := 2) rfl rfl (by decide) (by decide)) rfl rfl rfl ?_
        refine st_op (ev_assign rfl) rfl rfl rfl ?_
        try show aw _ _ _ _ _ _
        refine aw_reg ?_
        refine st_op (ev_move rfl) rfl rfl rfl ?_
        refine st_op (ev_int64 (c := (j : Int) + 1) rfl rfl rfl (by omega) (by omega)) rfl rfl rfl ?_
        refine st_op (ev_assign rfl) rfl rfl rfl ?_
        try show aw _ _ _ _ _ _
        refine aw_keep [0, 3, 4, 5] (l' := (.cons 0 (.slice bA b.length bc) (.cons 3 (.int .u32 (y / 2)) (.cons 4 (.int .i64 (i : Int)) (.cons 5 (.int .i64 ((j : Int) + 1)) .nil))))) (by repeat (first | exact Up.done | refine Up.then ?_ | refine Up.inBlock ?_)) rfl ?_
        exact ih15 (j + 1, (y / 2), Hl12) ⟨(show (j + 1) ≤ 8 from (by omega)), (show Spec.crcSteps 8 (Go.bits .xor .u32 x x9).toNat = Spec.crcSteps (8 - (j + 1)) (y / 2).toNat from (by rw [hy, show 8 - j = (8 - (j + 1)) + 1 by omega]; show Spec.crcSteps (8 - (j + 1)) (Spec.crcStep y.toNat) = _; congr 1; first | (rw [(Spec.crc_if hn).1 (by omega)]; rfl) | (rw [(Spec.crc_if hn).2 (by omega)]; rfl))), (show 0 ≤ (y / 2) ∧ (y / 2) ≤ 4294967295 from ⟨by omega, by omega⟩), (show Ext Hl1 Hl12 from hxl14)⟩ (by simp only; omega)
    · rw [Bool.not_eq_true] at hc16; refine aw_condF hc16 rfl ?_
      try show aw _ _ _ _ _ _
      have hc16 := of_decide_eq_false hc16
      refine aw_exit ?_
      try show aw _ _ _ _ _ _
      refine aw_reg ?_
      refine st_op (ev_move rfl) rfl rfl rfl ?_
      refine st_op (ev_int64 (c := (i : Int) + 1) rfl rfl rfl (by omega) (by omega)) rfl rfl rfl ?_
      refine st_op (ev_assign rfl) rfl rfl rfl ?_
      try show aw _ _ _ _ _ _
      have hx19 : Ext H Hl12 := (Ext.trans hxl3 hxl14)
      refine aw_keep [0, 3, 4] (l' := (.cons 0 (.slice bA b.length bc) (.cons 3 (.int .u32 y) (.cons 4 (.int .i64 ((i : Int) + 1)) .nil)))) (by repeat (first | exact Up.done | refine Up.then ?_ | refine Up.inBlock ?_)) rfl ?_
      exact ih4 (i + 1, y, Hl12) ⟨(show (i + 1) ≤ b.length from (by omega)), (show Spec.crcRun 4294967295 b = Spec.crcRun y.toNat (b.drop (i + 1)) from (by rw [hx, drop_at hx10, Spec.crc_more (by omega) x9b, hy, show 8 - j = 0 by omega]; rfl)), (show 0 ≤ y ∧ y ≤ 4294967295 from ⟨by omega, by omega⟩), (show Ext H Hl12 from hx19)⟩ (by simp only; omega)
  · rw [Bool.not_eq_true] at hc5; refine aw_condF hc5 rfl ?_
    try show aw _ _ _ _ _ _
    have hc5 := of_decide_eq_false hc5
    refine aw_exit ?_
    try show aw _ _ _ _ _ _
    refine aw_seq ?_
    refine aw_reg ?_
    refine st_op (ev_move rfl) rfl rfl rfl ?_
    have hw20 : 0 ≤ (Go.bits .xor .u32 (IntKind.max .u32) x) ∧ (Go.bits .xor .u32 (IntKind.max .u32) x) ≤ 4294967295 := bitsU32 _ _ _
    refine st_op (ev_comU rfl rfl) rfl rfl rfl ?_
    refine st_op (ev_assign rfl) rfl rfl rfl ?_
    try show aw _ _ _ _ _ _
    refine aw_ret ?_
    have hres : ((Spec.crcMore 0 b : Nat) : Int) = (Go.bits .xor .u32 (IntKind.max .u32) x) := by have q := Spec.crc_fin (s := 0) (l := b) (x := x) (by decide) (by omega) (by rw [show (4294967295 - (0 : Int).toNat) = 4294967295 from rfl, hx, List.drop_eq_nil_of_le (by omega)]; rfl); exact q
    exact ⟨.int .u32 (Go.bits .xor .u32 (IntKind.max .u32) x), rfl, by rw [hres], (by exact ⟨by omega, by have := Spec.crcMore_lt 0 b; omega⟩), hxl3⟩
theorem ref1_Seal_spec (H : Heap) (kind : Int) (hkind : -9223372036854775808 ≤ kind ∧ kind ≤ 9223372036854775807) (bA : Option Addr) (b : List Int) (bc : Nat) (hb : Row H bA bc 1 (b.map u8c)) (cb : b.length ≤ bc) (lb : b.length ≤ 1099511627776) (bb : Spec.Bytes b) : ∃ v H', Spec Try.prog 35 [.int .i64 kind, .slice bA b.length bc] H v H' ∧ (∃ rA0 rc0, (v = .slice rA0 ((Spec.sealF kind b).length) rc0) ∧ (My H H' rA0 rc0 1 ((Spec.sealF kind b).map u8c)) ∧ (((Spec.sealF kind b)).length ≤ 4007) ∧ (Spec.Bytes (Spec.sealF kind b)) ∧ (Ext H H')) := by
  refine spec_go2 E0_ok 47 (f := 35) Try.func35 rfl rfl rfl ?_
  refine aw_seq ?_
  refine aw_reg ?_
  refine st_op (ev_assign rfl) rfl rfl rfl ?_
  try show aw _ _ _ _ _ _
  refine aw_seq ?_
  refine aw_seq ?_
  refine aw_reg ?_
  refine st_op (ev_move rfl) rfl rfl rfl ?_
  refine st_op (ev_int rfl rfl rfl) rfl rfl rfl ?_
  refine st_op (ev_move rfl) rfl rfl rfl ?_
  refine st_bool 9 rfl (fun hb1 => ?_) (fun hb1 => ?_)
  ·
    have hb1 := of_decide_eq_true hb1
    refine st_skip rfl rfl rfl ?_
    refine st_skip rfl rfl rfl ?_
    refine st_op (ev_pickT rfl rfl) rfl rfl rfl ?_
    refine st_op (ev_move rfl) rfl rfl rfl ?_
    refine st_skip rfl rfl rfl ?_
    refine st_skip rfl rfl rfl ?_
    refine st_skip rfl rfl rfl ?_
    refine st_op (ev_pickT rfl rfl) rfl rfl rfl ?_
    try show aw _ _ _ _ _ _
    refine aw_cond (t := true) rfl ?_
    try show aw _ _ _ _ _ _
    refine aw_seq ?_
    refine aw_reg ?_
    refine st_op (ev_assign rfl) rfl rfl rfl ?_
    try show aw _ _ _ _ _ _
    refine aw_ret ?_
    have hm2 : My H H none 0 1 (([] : List Int).map u8c) := .nil
    have hres : (Spec.sealF kind b) = ([] : List Int) := by unfold Spec.sealF; rw [if_pos (by omega)]
    exact ⟨.slice none 0 0, rfl, none, 0, by rw [hres]; first | done | rfl | simp, (by rw [hres]; exact hm2), (by exact Spec.sealF_len), (by exact Spec.sealF_bytes bb), (Ext.refl H)⟩
  ·
    have hb1 := of_decide_eq_false hb1
    refine st_op (ev_move rfl) rfl rfl rfl ?_
    refine st_op (ev_int rfl rfl rfl) rfl rfl rfl ?_
    refine st_op (ev_pickF rfl rfl) rfl rfl rfl ?_
    refine st_op (ev_move rfl) rfl rfl rfl ?_
    refine st_bool 13 rfl (fun hb3 => ?_) (fun hb3 => ?_)
    ·
      have hb3 := of_decide_eq_true hb3
      refine st_skip rfl rfl rfl ?_
      refine st_skip rfl rfl rfl ?_
      refine st_skip rfl rfl rfl ?_
      refine st_op (ev_pickT rfl rfl) rfl rfl rfl ?_
      try show aw _ _ _ _ _ _
      refine aw_cond (t := true) rfl ?_
      try show aw _ _ _ _ _ _
      refine aw_seq ?_
      refine aw_reg ?_
      refine st_op (ev_assign rfl) rfl rfl rfl ?_
      try show aw _ _ _ _ _ _
      refine aw_ret ?_
      have hm4 : My H H none 0 1 (([] : List Int).map u8c) := .nil
      have hres : (Spec.sealF kind b) = ([] : List Int) := by unfold Spec.sealF; rw [if_pos (by omega)]
      exact ⟨.slice none 0 0, rfl, none, 0, by rw [hres]; first | done | rfl | simp, (by rw [hres]; exact hm4), (by exact Spec.sealF_len), (by exact Spec.sealF_bytes bb), (Ext.refl H)⟩
    ·
      have hb3 := of_decide_eq_false hb3
      refine st_op (ev_move rfl) rfl rfl rfl ?_
      refine st_op (ev_lenSl rfl Try.underlying30) rfl rfl rfl ?_
      refine st_op (ev_int rfl rfl rfl) rfl rfl rfl ?_
      refine st_op (ev_pickF rfl rfl) rfl rfl rfl ?_
      try show aw _ _ _ _ _ _
      by_cases hc5 : (decide ((b.length : Int) > 4000)) = true
      · refine aw_condT hc5 rfl ?_
        try show aw _ _ _ _ _ _
        have hc5 := of_decide_eq_true hc5
        refine aw_seq ?_
        refine aw_reg ?_
        refine st_op (ev_assign rfl) rfl rfl rfl ?_
        try show aw _ _ _ _ _ _
        refine aw_ret ?_
        have hm6 : My H H none 0 1 (([] : List Int).map u8c) := .nil
        have hres : (Spec.sealF kind b) = ([] : List Int) := by unfold Spec.sealF; rw [if_pos (by omega)]
        exact ⟨.slice none 0 0, rfl, none, 0, by rw [hres]; first | done | rfl | simp, (by rw [hres]; exact hm6), (by exact Spec.sealF_len), (by exact Spec.sealF_bytes bb), (Ext.refl H)⟩
      · rw [Bool.not_eq_true] at hc5; refine aw_condF hc5 rfl ?_
        try show aw _ _ _ _ _ _
        have hc5 := of_decide_eq_false hc5
        refine aw_skip ?_
        try show aw _ _ _ _ _ _
        refine aw_seq ?_
        refine aw_reg ?_
        refine st_op (ev_move rfl) rfl rfl rfl ?_
        refine st_op (ev_convI Try.underlying3 Try.underlying5 rfl (wrU8 (by omega) (by omega))) rfl rfl rfl ?_
        obtain ⟨b7, H8, he9, b7e, H8n_, hm11, f10⟩ := mem_lit H (xs := [.int .u8 kind]) (m := 1) (rows := [[.int .u8 kind]]) rfl eok30 (by decide) (by decide) zf5 rfl (allLen rfl) rfl
        replace hm11 : My H H8 (some ⟨b7, 0, none⟩) 1 1 ([kind].map u8c) := hm11
        refine st_op (he9 _ _ _ _ _ _ _ _ rfl) rfl rfl rfl ?_
        have hx12 : Ext H H8 := Ext.new (by omega) H8n_ f10
        have H8n : H.next ≤ H8.next := hx12.1
        refine st_op (ev_move rfl) rfl rfl rfl ?_
        refine st_op (ev_lenSl rfl Try.underlying30) rfl rfl rfl ?_
        refine st_call rfl rfl rfl ent36 rfl rfl rfl ?_
        obtain ⟨_, H14, hs13, A16, c17, hs13v, hm18, hq19, hx15⟩ := ref1_Put_spec H8 (b.length : Int) ⟨by omega, by omega⟩
        rw [hs13v] at hs13; clear hs13v
        refine ⟨_, H14, hs13, ?_⟩
        have H14n : H8.next ≤ H14.next := hx15.1
        have h20 := My.ext hm11 hx15
        obtain ⟨A21, c22, H23, W24, he25, hm26, hf27⟩ := mem_append (f := u8c) (old := [kind]) (new := (Spec.enc (Spec.zig (b.length : Int)))) (m := 1) (mx := (Spec.enc (Spec.zig (b.length : Int))).length) (c := 1) (by first | rfl | simp) (by first | rfl | simp) eok30 (by decide) hm11 h20 (by omega) (((My.row hm18)).srcF (by decide) (by first | rfl | simp)) rfl u8c_len u8c_one (by first | omega | (simp only [List.length_append, List.length_cons, List.length_nil, List.length_map, List.length_set, List.length_replicate, Spec.bytesOf_length]; omega) | (simp; omega)) (by first | omega | (simp only [List.length_append, List.length_cons, List.length_nil, List.length_map, List.length_set, List.length_replicate, Spec.bytesOf_length]; omega) | (simp; omega))
        refine st_op (he25 _ _ _ _ _ _ _ _ _ _ rfl rfl isrow30) rfl rfl rfl ?_
        have H23n : H14.next ≤ H23.next := hf27.1
        refine st_op (ev_assign rfl) rfl rfl rfl ?_
        try show aw _ _ _ _ _ _
        refine aw_seq ?_
        refine aw_reg ?_
        refine st_op (ev_move rfl) rfl rfl rfl ?_
        have hm28 : My H23 H23 none 0 1 (([] : List Int).map u8c) := .nil
        obtain ⟨A29, c30, H31, W32, he33, hm34, hf35⟩ := mem_append (f := u8c) (old := ([] : List Int)) (new := ([kind] ++ (Spec.enc (Spec.zig (b.length : Int))))) (m := 0) (mx := ([kind] ++ (Spec.enc (Spec.zig (b.length : Int)))).length) (c := 0) (by first | rfl | simp) (by first | rfl | simp) eok30 (by decide) hm28 hm28 (by omega) (((My.row hm26)).srcF (by decide) (by first | rfl | simp)) rfl u8c_len u8c_one (by first | omega | (simp only [List.length_append, List.length_cons, List.length_nil, List.length_map, List.length_set, List.length_replicate, Spec.bytesOf_length]; omega) | (simp; omega)) (by first | omega | (simp only [List.length_append, List.length_cons, List.length_nil, List.length_map, List.length_set, List.length_replicate, Spec.bytesOf_length]; omega) | (simp; omega))
        refine st_op (he33 _ _ _ _ _ _ _ _ _ _ rfl rfl isrow30) rfl rfl rfl ?_
        have H31n : H23.next ≤ H31.next := hf35.1
        rw [List.nil_append] at hm34
        refine st_op (ev_move rfl) rfl rfl rfl ?_
        have hx37 : Ext H H31 := (Ext.then (Ext.then (Ext.trans hx12 hx15) hf27 (fun q hq e => by omega)) hf35 (fun q hq e => by omega))
        have h36 := Row.ext hb hx37
        obtain ⟨A38, c39, H40, W41, he42, hm43, hf44⟩ := mem_append (f := u8c) (old := ([kind] ++ (Spec.enc (Spec.zig (b.length : Int))))) (new := b) (m := ([kind] ++ (Spec.enc (Spec.zig (b.length : Int)))).length) (mx := b.length) (c := c30) (by first | rfl | simp) (by first | rfl | simp) eok30 (by decide) hm34 hm34 (by omega) ((h36).srcF (by decide) (by first | rfl | simp)) rfl u8c_len u8c_one (by first | omega | (simp only [List.length_append, List.length_cons, List.length_nil, List.length_map, List.length_set, List.length_replicate, Spec.bytesOf_length]; omega) | (simp; omega)) (by first | omega | (simp only [List.length_append, List.length_cons, List.length_nil, List.length_map, List.length_set, List.length_replicate, Spec.bytesOf_length]; omega) | (simp; omega))
        refine st_op (he42 _ _ _ _ _ _ _ _ _ _ rfl rfl isrow30) rfl rfl rfl ?_
        have H40n : H31.next ≤ H40.next := hf44.1
        refine st_call rfl rfl rfl ent49 rfl rfl rfl ?_
        obtain ⟨_, H46, hs45, hs45v, hq48, hx47⟩ := ref1_Sum_spec H40 A38 (([kind] ++ (Spec.enc (Spec.zig (b.length : Int)))) ++ b) c39 (My.row hm43) (My.capF hm43 (by first | omega | (simp only [List.length_append, List.length_cons, List.length_nil, List.length_map, List.length_set, List.length_replicate, Spec.bytesOf_length]; omega) | (simp; omega))) (by first | omega | (simp only [List.length_append, List.length_cons, List.length_nil, List.length_map, List.length_set, List.length_replicate, Spec.bytesOf_length]; omega) | (simp; omega)) (by first | assumption | exact Spec.Bytes.nil | exact Spec.bytes_of _ | (repeat' first | assumption | exact Spec.Bytes.nil | exact Spec.bytes_of _ | exact Spec.enc_bytes _ | exact Spec.four_bytes _ | exact Spec.sealF_bytes (by assumption) | apply Spec.Bytes.append | apply Spec.Bytes.cons (by omega) | apply Spec.Bytes.take | apply Spec.Bytes.drop))
        rw [hs45v] at hs45; clear hs45v
        refine ⟨_, H46, hs45, ?_⟩
        have H46n : H40.next ≤ H46.next := hx47.1
        refine st_op (ev_assign rfl) rfl rfl rfl ?_
        try show aw _ _ _ _ _ _
        refine aw_seq ?_
        refine aw_reg ?_
        refine st_op (ev_move rfl) rfl rfl rfl ?_
        refine st_op (ev_move rfl) rfl rfl rfl ?_
        refine st_op (ev_shr (a := ((Spec.crcMore 0 (([kind] ++ (Spec.enc (Spec.zig (b.length : Int)))) ++ b) : Nat) : Int)) (c := 16777216) rfl rfl (by decide) (by decide)) rfl rfl rfl ?_
        refine st_op (ev_convI Try.underlying87 Try.underlying5 rfl (wrU8 (by omega) (by omega))) rfl rfl rfl ?_
        refine st_op (ev_move rfl) rfl rfl rfl ?_
        refine st_op (ev_shr (a := ((Spec.crcMore 0 (([kind] ++ (Spec.enc (Spec.zig (b.length : Int)))) ++ b) : Nat) : Int)) (c := 65536) rfl rfl (by decide) (by decide)) rfl rfl rfl ?_
        have hw49 : 0 ≤ (IntKind.u8.wrap (((Spec.crcMore 0 (([kind] ++ (Spec.enc (Spec.zig (b.length : Int)))) ++ b) : Nat) : Int) / 65536)) ∧ (IntKind.u8.wrap (((Spec.crcMore 0 (([kind] ++ (Spec.enc (Spec.zig (b.length : Int)))) ++ b) : Nat) : Int) / 65536)) ≤ 255 := wrapU8 _
        refine st_op (ev_convInt Try.underlying87 Try.underlying5 rfl) rfl rfl rfl ?_
        refine st_op (ev_move rfl) rfl rfl rfl ?_
        refine st_op (ev_shr (a := ((Spec.crcMore 0 (([kind] ++ (Spec.enc (Spec.zig (b.length : Int)))) ++ b) : Nat) : Int)) (c := 256) rfl rfl (by decide) (by decide)) rfl rfl rfl ?_
        have hw50 : 0 ≤ (IntKind.u8.wrap (((Spec.crcMore 0 (([kind] ++ (Spec.enc (Spec.zig (b.length : Int)))) ++ b) : Nat) : Int) / 256)) ∧ (IntKind.u8.wrap (((Spec.crcMore 0 (([kind] ++ (Spec.enc (Spec.zig (b.length : Int)))) ++ b) : Nat) : Int) / 256)) ≤ 255 := wrapU8 _
        refine st_op (ev_convInt Try.underlying87 Try.underlying5 rfl) rfl rfl rfl ?_
        refine st_op (ev_move rfl) rfl rfl rfl ?_
        have hw51 : 0 ≤ (IntKind.u8.wrap ((Spec.crcMore 0 (([kind] ++ (Spec.enc (Spec.zig (b.length : Int)))) ++ b) : Nat) : Int)) ∧ (IntKind.u8.wrap ((Spec.crcMore 0 (([kind] ++ (Spec.enc (Spec.zig (b.length : Int)))) ++ b) : Nat) : Int)) ≤ 255 := wrapU8 _
        refine st_op (ev_convInt Try.underlying87 Try.underlying5 rfl) rfl rfl rfl ?_
        obtain ⟨b52, H53, he54, b52e, H53n_, hm56, f55⟩ := mem_lit H46 (xs := [.int .u8 (((Spec.crcMore 0 (([kind] ++ (Spec.enc (Spec.zig (b.length : Int)))) ++ b) : Nat) : Int) / 16777216), .int .u8 (IntKind.u8.wrap (((Spec.crcMore 0 (([kind] ++ (Spec.enc (Spec.zig (b.length : Int)))) ++ b) : Nat) : Int) / 65536)), .int .u8 (IntKind.u8.wrap (((Spec.crcMore 0 (([kind] ++ (Spec.enc (Spec.zig (b.length : Int)))) ++ b) : Nat) : Int) / 256)), .int .u8 (IntKind.u8.wrap ((Spec.crcMore 0 (([kind] ++ (Spec.enc (Spec.zig (b.length : Int)))) ++ b) : Nat) : Int))]) (m := 4) (rows := [[.int .u8 (((Spec.crcMore 0 (([kind] ++ (Spec.enc (Spec.zig (b.length : Int)))) ++ b) : Nat) : Int) / 16777216)], [.int .u8 (IntKind.u8.wrap (((Spec.crcMore 0 (([kind] ++ (Spec.enc (Spec.zig (b.length : Int)))) ++ b) : Nat) : Int) / 65536))], [.int .u8 (IntKind.u8.wrap (((Spec.crcMore 0 (([kind] ++ (Spec.enc (Spec.zig (b.length : Int)))) ++ b) : Nat) : Int) / 256))], [.int .u8 (IntKind.u8.wrap ((Spec.crcMore 0 (([kind] ++ (Spec.enc (Spec.zig (b.length : Int)))) ++ b) : Nat) : Int))]]) rfl eok30 (by decide) (by decide) zf5 rfl (allLen rfl) rfl
        replace hm56 : My H46 H53 (some ⟨b52, 0, none⟩) 4 1 ([(((Spec.crcMore 0 (([kind] ++ (Spec.enc (Spec.zig (b.length : Int)))) ++ b) : Nat) : Int) / 16777216), (IntKind.u8.wrap (((Spec.crcMore 0 (([kind] ++ (Spec.enc (Spec.zig (b.length : Int)))) ++ b) : Nat) : Int) / 65536)), (IntKind.u8.wrap (((Spec.crcMore 0 (([kind] ++ (Spec.enc (Spec.zig (b.length : Int)))) ++ b) : Nat) : Int) / 256)), (IntKind.u8.wrap ((Spec.crcMore 0 (([kind] ++ (Spec.enc (Spec.zig (b.length : Int)))) ++ b) : Nat) : Int))].map u8c) := hm56
        refine st_op (he54 _ _ _ _ _ _ _ _ rfl) rfl rfl rfl ?_
        have hx57 : Ext H46 H53 := Ext.new (by omega) H53n_ f55
        have H53n : H46.next ≤ H53.next := hx57.1
        have hx59 : Ext H23 H53 := (Ext.trans (Ext.trans (Ext.then (Ext.then (Ext.refl H23) hf35 (fun q hq e => by omega)) hf44 (fun q hq e => by omega)) hx47) hx57)
        have h58 := My.ext hm26 hx59
        obtain ⟨A60, c61, H62, W63, he64, hm65, hf66⟩ := mem_append (f := u8c) (old := ([kind] ++ (Spec.enc (Spec.zig (b.length : Int))))) (new := [(((Spec.crcMore 0 (([kind] ++ (Spec.enc (Spec.zig (b.length : Int)))) ++ b) : Nat) : Int) / 16777216), (IntKind.u8.wrap (((Spec.crcMore 0 (([kind] ++ (Spec.enc (Spec.zig (b.length : Int)))) ++ b) : Nat) : Int) / 65536)), (IntKind.u8.wrap (((Spec.crcMore 0 (([kind] ++ (Spec.enc (Spec.zig (b.length : Int)))) ++ b) : Nat) : Int) / 256)), (IntKind.u8.wrap ((Spec.crcMore 0 (([kind] ++ (Spec.enc (Spec.zig (b.length : Int)))) ++ b) : Nat) : Int))]) (m := ([kind] ++ (Spec.enc (Spec.zig (b.length : Int)))).length) (mx := 4) (c := c22) (by first | rfl | simp) (by first | rfl | simp) eok30 (by decide) hm26 h58 (by omega) (((My.row hm56)).srcF (by decide) (by first | rfl | simp)) rfl u8c_len u8c_one (by first | omega | (simp only [List.length_append, List.length_cons, List.length_nil, List.length_map, List.length_set, List.length_replicate, Spec.bytesOf_length]; omega) | (simp; omega)) (by first | omega | (simp only [List.length_append, List.length_cons, List.length_nil, List.length_map, List.length_set, List.length_replicate, Spec.bytesOf_length]; omega) | (simp; omega))
        refine st_op (he64 _ _ _ _ _ _ _ _ _ _ rfl rfl isrow30) rfl rfl rfl ?_
        have H62n : H53.next ≤ H62.next := hf66.1
        refine st_op (ev_assign rfl) rfl rfl rfl ?_
        try show aw _ _ _ _ _ _
        refine aw_seq ?_
        refine aw_reg ?_
        refine st_op (ev_move rfl) rfl rfl rfl ?_
        refine st_op (ev_move rfl) rfl rfl rfl ?_
        have hx68 : Ext H H62 := (Ext.then (Ext.trans (Ext.trans (Ext.then hx37 hf44 (fun q hq e => by omega)) hx47) hx57) hf66 (fun q hq e => by omega))
        have h67 := Row.ext hb hx68
        obtain ⟨A69, c70, H71, W72, he73, hm74, hf75⟩ := mem_append (f := u8c) (old := (([kind] ++ (Spec.enc (Spec.zig (b.length : Int)))) ++ [(((Spec.crcMore 0 (([kind] ++ (Spec.enc (Spec.zig (b.length : Int)))) ++ b) : Nat) : Int) / 16777216), (IntKind.u8.wrap (((Spec.crcMore 0 (([kind] ++ (Spec.enc (Spec.zig (b.length : Int)))) ++ b) : Nat) : Int) / 65536)), (IntKind.u8.wrap (((Spec.crcMore 0 (([kind] ++ (Spec.enc (Spec.zig (b.length : Int)))) ++ b) : Nat) : Int) / 256)), (IntKind.u8.wrap ((Spec.crcMore 0 (([kind] ++ (Spec.enc (Spec.zig (b.length : Int)))) ++ b) : Nat) : Int))])) (new := b) (m := (([kind] ++ (Spec.enc (Spec.zig (b.length : Int)))) ++ [(((Spec.crcMore 0 (([kind] ++ (Spec.enc (Spec.zig (b.length : Int)))) ++ b) : Nat) : Int) / 16777216), (IntKind.u8.wrap (((Spec.crcMore 0 (([kind] ++ (Spec.enc (Spec.zig (b.length : Int)))) ++ b) : Nat) : Int) / 65536)), (IntKind.u8.wrap (((Spec.crcMore 0 (([kind] ++ (Spec.enc (Spec.zig (b.length : Int)))) ++ b) : Nat) : Int) / 256)), (IntKind.u8.wrap ((Spec.crcMore 0 (([kind] ++ (Spec.enc (Spec.zig (b.length : Int)))) ++ b) : Nat) : Int))]).length) (mx := b.length) (c := c61) (by first | rfl | simp) (by first | rfl | simp) eok30 (by decide) hm65 hm65 (by omega) ((h67).srcF (by decide) (by first | rfl | simp)) rfl u8c_len u8c_one (by first | omega | (simp only [List.length_append, List.length_cons, List.length_nil, List.length_map, List.length_set, List.length_replicate, Spec.bytesOf_length]; omega) | (simp; omega)) (by first | omega | (simp only [List.length_append, List.length_cons, List.length_nil, List.length_map, List.length_set, List.length_replicate, Spec.bytesOf_length]; omega) | (simp; omega))
        refine st_op (he73 _ _ _ _ _ _ _ _ _ _ rfl rfl isrow30) rfl rfl rfl ?_
        have H71n : H62.next ≤ H71.next := hf75.1
        refine st_op (ev_assign rfl) rfl rfl rfl ?_
        try show aw _ _ _ _ _ _
        refine aw_ret ?_
        have hx76 : Ext H H71 := (Ext.then hx68 hf75 (fun q hq e => by omega))
        have hres : (Spec.sealF kind b) = ((([kind] ++ (Spec.enc (Spec.zig (b.length : Int)))) ++ [(((Spec.crcMore 0 (([kind] ++ (Spec.enc (Spec.zig (b.length : Int)))) ++ b) : Nat) : Int) / 16777216), (IntKind.u8.wrap (((Spec.crcMore 0 (([kind] ++ (Spec.enc (Spec.zig (b.length : Int)))) ++ b) : Nat) : Int) / 65536)), (IntKind.u8.wrap (((Spec.crcMore 0 (([kind] ++ (Spec.enc (Spec.zig (b.length : Int)))) ++ b) : Nat) : Int) / 256)), (IntKind.u8.wrap ((Spec.crcMore 0 (([kind] ++ (Spec.enc (Spec.zig (b.length : Int)))) ++ b) : Nat) : Int))]) ++ b) := by unfold Spec.sealF; rw [if_neg (by omega), ← Spec.seal_ref]; rw [Spec.four_is2 (s := ((Spec.crcMore 0 (([kind] ++ (Spec.enc (Spec.zig (b.length : Int)))) ++ b) : Nat) : Int)) (by omega)]; simp only [List.append_assoc, Int.toNat_natCast, List.nil_append]
        exact ⟨.slice A69 (((([kind] ++ (Spec.enc (Spec.zig (b.length : Int)))) ++ [(((Spec.crcMore 0 (([kind] ++ (Spec.enc (Spec.zig (b.length : Int)))) ++ b) : Nat) : Int) / 16777216), (IntKind.u8.wrap (((Spec.crcMore 0 (([kind] ++ (Spec.enc (Spec.zig (b.length : Int)))) ++ b) : Nat) : Int) / 65536)), (IntKind.u8.wrap (((Spec.crcMore 0 (([kind] ++ (Spec.enc (Spec.zig (b.length : Int)))) ++ b) : Nat) : Int) / 256)), (IntKind.u8.wrap ((Spec.crcMore 0 (([kind] ++ (Spec.enc (Spec.zig (b.length : Int)))) ++ b) : Nat) : Int))]) ++ b).length) c70, rfl, A69, c70, by rw [hres]; first | done | rfl | simp, (by rw [hres]; exact hm74), (by exact Spec.sealF_len), (by exact Spec.sealF_bytes bb), hx76⟩
theorem ref1_Open_spec (H : Heap) (bA : Option Addr) (b : List Int) (bc : Nat) (hb : Row H bA bc 1 (b.map u8c)) (cb : b.length ≤ bc) (lb : b.length ≤ 1099511627776) (bb : Spec.Bytes b) : ∃ v H', Spec Try.prog 42 [.slice bA b.length bc] H v H' ∧ (∃ rA1 rc1, (v = .tuple #[.int .i64 ((Spec.openF b).1), .slice rA1 (((Spec.openF b).2.1).length) rc1, .int .i64 ((Spec.openF b).2.2.1), .int .i64 ((Spec.openF b).2.2.2)]) ∧ (Row H' rA1 rc1 1 (((Spec.openF b).2.1).map u8c)) ∧ (((Spec.openF b).2.1).length ≤ rc1) ∧ ((Spec.openF b).2.2.2 = 0 → 1 ≤ (Spec.openF b).1 ∧ (Spec.openF b).1 ≤ 255 ∧ (Spec.openF b).2.1.length ≤ 4000 ∧ 6 ≤ (Spec.openF b).2.2.1 ∧ (Spec.openF b).2.2.1 ≤ b.length ∧ (Spec.openF b).2.2.1 ≤ 4020) ∧ (0 ≤ (Spec.openF b).2.2.2 ∧ (Spec.openF b).2.2.2 ≤ 3) ∧ ((Spec.openF b).2.2.2 ≠ 0 → (Spec.openF b).1 = 0 ∧ (Spec.openF b).2.1 = [] ∧ (Spec.openF b).2.2.1 = 0) ∧ (Spec.Bytes (Spec.openF b).2.1) ∧ (Ext H H')) := by
  refine spec_go1 E0_ok 82 (f := 42) Try.func42 rfl rfl rfl ?_
  refine aw_seq ?_
  refine aw_reg ?_
  refine st_op (ev_assign rfl) rfl rfl rfl ?_
  refine st_op (ev_assign rfl) rfl rfl rfl ?_
  refine st_op (ev_assign rfl) rfl rfl rfl ?_
  refine st_op (ev_assign rfl) rfl rfl rfl ?_
  try show aw _ _ _ _ _ _
  refine aw_seq ?_
  refine aw_seq ?_
  refine aw_reg ?_
  refine st_op (ev_move rfl) rfl rfl rfl ?_
  refine st_op (ev_lenSl rfl Try.underlying30) rfl rfl rfl ?_
  refine st_op (ev_int rfl rfl rfl) rfl rfl rfl ?_
  try show aw _ _ _ _ _ _
  by_cases hc1 : ((b.length : Int) == 0) = true
  · refine aw_condT hc1 rfl ?_
    try show aw _ _ _ _ _ _
    have hc1 := eq_of_beq hc1
    refine aw_seq ?_
    refine aw_reg ?_
    refine st_op (ev_assign rfl) rfl rfl rfl ?_
    refine st_op (ev_assign rfl) rfl rfl rfl ?_
    refine st_op (ev_assign rfl) rfl rfl rfl ?_
    refine st_op (ev_assign rfl) rfl rfl rfl ?_
    try show aw _ _ _ _ _ _
    refine aw_ret ?_
    have hr2 : Row H none 0 1 (([] : List Int).map u8c) := .nil
    have hres : (Spec.openF b) = (0, ([] : List Int), 0, 2) := by rw [show b = [] from List.eq_nil_of_length_eq_zero (by omega)]; rfl
    exact ⟨.tuple #[.int .i64 0, .slice none 0 0, .int .i64 0, .int .i64 2], rfl, none, 0, by rw [hres]; first | done | rfl | simp, (by rw [hres]; exact hr2), (by rw [hres]; exact (Nat.le_refl 0)), (by exact (Spec.open_all bb).1), (by exact (Spec.open_all bb).2.1), (by exact (Spec.open_all bb).2.2.1), (by exact (Spec.open_all bb).2.2.2), (Ext.refl H)⟩
  · rw [Bool.not_eq_true] at hc1; refine aw_condF hc1 rfl ?_
    try show aw _ _ _ _ _ _
    have hc1 := ne_of_beq_false hc1
    refine aw_skip ?_
    try show aw _ _ _ _ _ _
    refine aw_seq ?_
    refine aw_seq ?_
    refine aw_reg ?_
    refine st_op (ev_move rfl) rfl rfl rfl ?_
    have hi3 : 0 ≤ (0 : Int) := by omega
    have hi4 : (0 : Int) < ((b.length : Nat) : Int) := by first | omega | (simp only [List.length_append, List.length_cons, List.length_nil, List.length_map, List.length_set, List.length_replicate, Spec.bytesOf_length]; omega) | (simp; omega)
    obtain ⟨x5, hx6⟩ : ∃ e, b[0]? = some e := ⟨_, List.getElem?_eq_getElem (by first | omega | (simp only [List.length_append, List.length_cons, List.length_nil, List.length_map, List.length_set, List.length_replicate, Spec.bytesOf_length]; omega) | (simp; omega))⟩
    have x5b : 0 ≤ x5 ∧ x5 < 256 := ((by first | assumption | exact Spec.Bytes.nil | exact Spec.bytes_of _ | (repeat' first | assumption | exact Spec.Bytes.nil | exact Spec.bytes_of _ | exact Spec.enc_bytes _ | exact Spec.four_bytes _ | exact Spec.sealF_bytes (by assumption) | apply Spec.Bytes.append | apply Spec.Bytes.cons (by omega) | apply Spec.Bytes.take | apply Spec.Bytes.drop)) : Spec.Bytes b) _ (List.mem_of_getElem? hx6)
    refine st_op (ev_at rfl rfl hb (getMap u8c hx6) (by first | rfl | omega | simp) hi3 hi4 el30) rfl rfl rfl ?_
    refine st_op (ev_atL rfl hb (getMap u8c hx6) one5 rfl) rfl rfl rfl ?_
    refine st_op (ev_int rfl rfl rfl) rfl rfl rfl ?_
    try show aw _ _ _ _ _ _
    by_cases hc7 : (x5 == 0) = true
    · refine aw_condT hc7 rfl ?_
      try show aw _ _ _ _ _ _
      have hc7 := eq_of_beq hc7
      refine aw_seq ?_
      refine aw_reg ?_
      refine st_op (ev_assign rfl) rfl rfl rfl ?_
      refine st_op (ev_assign rfl) rfl rfl rfl ?_
      refine st_op (ev_assign rfl) rfl rfl rfl ?_
      refine st_op (ev_assign rfl) rfl rfl rfl ?_
      try show aw _ _ _ _ _ _
      refine aw_ret ?_
      have hr8 : Row H none 0 1 (([] : List Int).map u8c) := .nil
      have hres : (Spec.openF b) = (0, ([] : List Int), 0, 3) := by exact Spec.openF_0 (by rw [hx6]; congr 1)
      exact ⟨.tuple #[.int .i64 0, .slice none 0 0, .int .i64 0, .int .i64 3], rfl, none, 0, by rw [hres]; first | done | rfl | simp, (by rw [hres]; exact hr8), (by rw [hres]; exact (Nat.le_refl 0)), (by exact (Spec.open_all bb).1), (by exact (Spec.open_all bb).2.1), (by exact (Spec.open_all bb).2.2.1), (by exact (Spec.open_all bb).2.2.2), (Ext.refl H)⟩
    · rw [Bool.not_eq_true] at hc7; refine aw_condF hc7 rfl ?_
      try show aw _ _ _ _ _ _
      have hc7 := ne_of_beq_false hc7
      refine aw_skip ?_
      try show aw _ _ _ _ _ _
      refine aw_seq ?_
      refine aw_reg ?_
      refine st_op (ev_move rfl) rfl rfl rfl ?_
      obtain ⟨A9, c10, L11, hL12, hl13, hs14, hr15, hc16⟩ := sliceA_typed u8c el30 (by decide) hb cb (lo := some (.int .i64 1)) (hi := none) (l := 1) (h := b.length) rfl (bound_int (by first | omega | (simp only [List.length_append, List.length_cons, List.length_nil, List.length_map, List.length_set, List.length_replicate, Spec.bytesOf_length]; omega) | (simp; omega)) (by first | omega | (simp only [List.length_append, List.length_cons, List.length_nil, List.length_map, List.length_set, List.length_replicate, Spec.bytesOf_length]; omega) | (simp; omega)) (by first | rfl | omega)) (by first | omega | (simp only [List.length_append, List.length_cons, List.length_nil, List.length_map, List.length_set, List.length_replicate, Spec.bytesOf_length]; omega) | (simp; omega)) (by first | omega | (simp only [List.length_append, List.length_cons, List.length_nil, List.length_map, List.length_set, List.length_replicate, Spec.bytesOf_length]; omega) | (simp; omega))
      refine st_op (ev_slice rfl rfl rfl rfl hs14) rfl rfl rfl ?_
      have hL12b : Spec.Bytes L11 := by rw [hL12]; exact Spec.Bytes.take (Spec.Bytes.drop (by first | assumption | exact Spec.Bytes.nil | exact Spec.bytes_of _ | (repeat' first | assumption | exact Spec.Bytes.nil | exact Spec.bytes_of _ | exact Spec.enc_bytes _ | exact Spec.four_bytes _ | exact Spec.sealF_bytes (by assumption) | apply Spec.Bytes.append | apply Spec.Bytes.cons (by omega) | apply Spec.Bytes.take | apply Spec.Bytes.drop)) _) _
      refine st_call rfl rfl rfl ent52 rfl rfl rfl ?_
      obtain ⟨_, H18, hs17, hs17v, hq20, hq21, hq22, hx19⟩ := ref1_Get_spec H A9 L11 c10 hr15 hc16 (by first | omega | (simp only [List.length_append, List.length_cons, List.length_nil, List.length_map, List.length_set, List.length_replicate, Spec.bytesOf_length]; omega) | (simp; omega)) (by first | assumption | exact Spec.Bytes.nil | exact Spec.bytes_of _ | (repeat' first | assumption | exact Spec.Bytes.nil | exact Spec.bytes_of _ | exact Spec.enc_bytes _ | exact Spec.four_bytes _ | exact Spec.sealF_bytes (by assumption) | apply Spec.Bytes.append | apply Spec.Bytes.cons (by omega) | apply Spec.Bytes.take | apply Spec.Bytes.drop))
      rw [hs17v] at hs17; clear hs17v
      generalize hR24 : (Spec.numGet 0 0 L11) = r23 at hs17 hq20 hq21 hq22
      obtain ⟨z25, z26, z27⟩ := r23
      dsimp only at hs17 hq20 hq21 hq22
      refine ⟨_, H18, hs17, ?_⟩
      have H18n : H.next ≤ H18.next := hx19.1
      refine st_op (ev_move rfl) rfl rfl rfl ?_
      refine st_op (ev_extract rfl rfl) rfl rfl rfl ?_
      refine st_op (ev_extract rfl rfl) rfl rfl rfl ?_
      refine st_op (ev_extract rfl rfl) rfl rfl rfl ?_
      refine st_op (ev_assign rfl) rfl rfl rfl ?_
      refine st_op (ev_assign rfl) rfl rfl rfl ?_
      refine st_op (ev_assign rfl) rfl rfl rfl ?_
      try show aw _ _ _ _ _ _
      refine aw_seq ?_
      refine aw_seq ?_
      refine aw_reg ?_
      refine st_op (ev_move rfl) rfl rfl rfl ?_
      refine st_op (ev_int rfl rfl rfl) rfl rfl rfl ?_
      refine st_op (ev_move rfl) rfl rfl rfl ?_
      refine st_bool 27 rfl (fun hb28 => ?_) (fun hb28 => ?_)
      ·
        have hb28 := eq_of_beq hb28
        refine st_op (ev_move rfl) rfl rfl rfl ?_
        refine st_op (ev_lenSl rfl Try.underlying30) rfl rfl rfl ?_
        refine st_op (ev_int rfl rfl rfl) rfl rfl rfl ?_
        refine st_op (ev_pickT rfl rfl) rfl rfl rfl ?_
        try show aw _ _ _ _ _ _
        by_cases hc29 : (decide ((b.length : Int) > 2)) = true
        · refine aw_condT hc29 rfl ?_
          try show aw _ _ _ _ _ _
          have hc29 := of_decide_eq_true hc29
          refine aw_seq ?_
          refine aw_reg ?_
          refine st_op (ev_assign rfl) rfl rfl rfl ?_
          refine st_op (ev_assign rfl) rfl rfl rfl ?_
          refine st_op (ev_assign rfl) rfl rfl rfl ?_
          refine st_op (ev_assign rfl) rfl rfl rfl ?_
          try show aw _ _ _ _ _ _
          refine aw_ret ?_
          have hr30 : Row H18 none 0 1 (([] : List Int).map u8c) := .nil
          have hres : (Spec.openF b) = (0, ([] : List Int), 0, 3) := by first | (exfalso; omega) | (rw [Spec.openF_ne hx6 hL12 hR24]; (repeat (first | rfl | rw [if_neg (by omega)] | rw [if_pos (by omega)])) <;> (try (simp only [Prod.mk.injEq, true_and]; omega)))
          exact ⟨.tuple #[.int .i64 0, .slice none 0 0, .int .i64 0, .int .i64 3], rfl, none, 0, by rw [hres]; first | done | rfl | simp, (by rw [hres]; exact hr30), (by rw [hres]; exact (Nat.le_refl 0)), (by exact (Spec.open_all bb).1), (by exact (Spec.open_all bb).2.1), (by exact (Spec.open_all bb).2.2.1), (by exact (Spec.open_all bb).2.2.2), hx19⟩
        · rw [Bool.not_eq_true] at hc29; refine aw_condF hc29 rfl ?_
          try show aw _ _ _ _ _ _
          have hc29 := of_decide_eq_false hc29
          refine aw_skip ?_
          try show aw _ _ _ _ _ _
          refine aw_seq ?_
          refine aw_seq ?_
          refine aw_reg ?_
          refine st_op (ev_move rfl) rfl rfl rfl ?_
          refine st_op (ev_int rfl rfl rfl) rfl rfl rfl ?_
          try show aw _ _ _ _ _ _
          by_cases hc31 : (z27 == 2) = true
          · refine aw_condT hc31 rfl ?_
            try show aw _ _ _ _ _ _
            have hc31 := eq_of_beq hc31
            refine aw_seq ?_
            refine aw_reg ?_
            refine st_op (ev_move rfl) rfl rfl rfl ?_
            refine st_op (ev_assign rfl) rfl rfl rfl ?_
            refine st_op (ev_assign rfl) rfl rfl rfl ?_
            refine st_op (ev_assign rfl) rfl rfl rfl ?_
            refine st_op (ev_assign rfl) rfl rfl rfl ?_
            try show aw _ _ _ _ _ _
            refine aw_ret ?_
            have hr32 : Row H18 none 0 1 (([] : List Int).map u8c) := .nil
            have hres : (Spec.openF b) = (0, ([] : List Int), 0, z27) := by first | (exfalso; omega) | (rw [Spec.openF_ne hx6 hL12 hR24]; (repeat (first | rfl | rw [if_neg (by omega)] | rw [if_pos (by omega)])) <;> (try (simp only [Prod.mk.injEq, true_and]; omega)))
            exact ⟨.tuple #[.int .i64 0, .slice none 0 0, .int .i64 0, .int .i64 z27], rfl, none, 0, by rw [hres]; first | done | rfl | simp, (by rw [hres]; exact hr32), (by rw [hres]; exact (Nat.le_refl 0)), (by exact (Spec.open_all bb).1), (by exact (Spec.open_all bb).2.1), (by exact (Spec.open_all bb).2.2.1), (by exact (Spec.open_all bb).2.2.2), hx19⟩
          · rw [Bool.not_eq_true] at hc31; refine aw_condF hc31 rfl ?_
            try show aw _ _ _ _ _ _
            have hc31 := ne_of_beq_false hc31
            exfalso; omega
      ·
        have hb28 := ne_of_beq_false hb28
        refine st_skip rfl rfl rfl ?_
        refine st_skip rfl rfl rfl ?_
        refine st_skip rfl rfl rfl ?_
        refine st_op (ev_pickF rfl rfl) rfl rfl rfl ?_
        try show aw _ _ _ _ _ _
        refine aw_cond (t := false) rfl ?_
        try show aw _ _ _ _ _ _
        refine aw_skip ?_
        try show aw _ _ _ _ _ _
        refine aw_seq ?_
        refine aw_seq ?_
        refine aw_reg ?_
        refine st_op (ev_move rfl) rfl rfl rfl ?_
        refine st_op (ev_int rfl rfl rfl) rfl rfl rfl ?_
        try show aw _ _ _ _ _ _
        by_cases hc33 : (z27 == 2) = true
        · refine aw_condT hc33 rfl ?_
          try show aw _ _ _ _ _ _
          have hc33 := eq_of_beq hc33
          exfalso; omega
        · rw [Bool.not_eq_true] at hc33; refine aw_condF hc33 rfl ?_
          try show aw _ _ _ _ _ _
          have hc33 := ne_of_beq_false hc33
          refine aw_skip ?_
          try show aw _ _ _ _ _ _
          refine aw_seq ?_
          refine aw_seq ?_
          refine aw_reg ?_
          refine st_op (ev_move rfl) rfl rfl rfl ?_
          refine st_op (ev_int rfl rfl rfl) rfl rfl rfl ?_
          refine st_op (ev_move rfl) rfl rfl rfl ?_
          refine st_bool 37 rfl (fun hb34 => ?_) (fun hb34 => ?_)
          ·
            have hb34 : ¬ (z27 = 0) := by simpa using hb34
            refine st_skip rfl rfl rfl ?_
            refine st_skip rfl rfl rfl ?_
            refine st_op (ev_pickT rfl rfl) rfl rfl rfl ?_
            refine st_op (ev_move rfl) rfl rfl rfl ?_
            refine st_skip rfl rfl rfl ?_
            refine st_skip rfl rfl rfl ?_
            refine st_op (ev_pickT rfl rfl) rfl rfl rfl ?_
            try show aw _ _ _ _ _ _
            refine aw_cond (t := true) rfl ?_
            try show aw _ _ _ _ _ _
            refine aw_seq ?_
            refine aw_reg ?_
            refine st_op (ev_assign rfl) rfl rfl rfl ?_
            refine st_op (ev_assign rfl) rfl rfl rfl ?_
            refine st_op (ev_assign rfl) rfl rfl rfl ?_
            refine st_op (ev_assign rfl) rfl rfl rfl ?_
            try show aw _ _ _ _ _ _
            refine aw_ret ?_
            have hr35 : Row H18 none 0 1 (([] : List Int).map u8c) := .nil
            have hres : (Spec.openF b) = (0, ([] : List Int), 0, 3) := by first | (exfalso; omega) | (rw [Spec.openF_ne hx6 hL12 hR24]; (repeat (first | rfl | rw [if_neg (by omega)] | rw [if_pos (by omega)])) <;> (try (simp only [Prod.mk.injEq, true_and]; omega)))
            exact ⟨.tuple #[.int .i64 0, .slice none 0 0, .int .i64 0, .int .i64 3], rfl, none, 0, by rw [hres]; first | done | rfl | simp, (by rw [hres]; exact hr35), (by rw [hres]; exact (Nat.le_refl 0)), (by exact (Spec.open_all bb).1), (by exact (Spec.open_all bb).2.1), (by exact (Spec.open_all bb).2.2.1), (by exact (Spec.open_all bb).2.2.2), hx19⟩
          ·
            have hb34 : (z27 = 0) := by simpa using hb34
            refine st_op (ev_move rfl) rfl rfl rfl ?_
            refine st_op (ev_int rfl rfl rfl) rfl rfl rfl ?_
            refine st_op (ev_pickF rfl rfl) rfl rfl rfl ?_
            refine st_op (ev_move rfl) rfl rfl rfl ?_
            refine st_bool 41 rfl (fun hb36 => ?_) (fun hb36 => ?_)
            ·
              have hb36 := of_decide_eq_true hb36
              refine st_skip rfl rfl rfl ?_
              refine st_skip rfl rfl rfl ?_
              refine st_op (ev_pickT rfl rfl) rfl rfl rfl ?_
              try show aw _ _ _ _ _ _
              refine aw_cond (t := true) rfl ?_
              try show aw _ _ _ _ _ _
              refine aw_seq ?_
              refine aw_reg ?_
              refine st_op (ev_assign rfl) rfl rfl rfl ?_
              refine st_op (ev_assign rfl) rfl rfl rfl ?_
              refine st_op (ev_assign rfl) rfl rfl rfl ?_
              refine st_op (ev_assign rfl) rfl rfl rfl ?_
              try show aw _ _ _ _ _ _
              refine aw_ret ?_
              have hr37 : Row H18 none 0 1 (([] : List Int).map u8c) := .nil
              have hres : (Spec.openF b) = (0, ([] : List Int), 0, 3) := by first | (exfalso; omega) | (rw [Spec.openF_ne hx6 hL12 hR24]; (repeat (first | rfl | rw [if_neg (by omega)] | rw [if_pos (by omega)])) <;> (try (simp only [Prod.mk.injEq, true_and]; omega)))
              exact ⟨.tuple #[.int .i64 0, .slice none 0 0, .int .i64 0, .int .i64 3], rfl, none, 0, by rw [hres]; first | done | rfl | simp, (by rw [hres]; exact hr37), (by rw [hres]; exact (Nat.le_refl 0)), (by exact (Spec.open_all bb).1), (by exact (Spec.open_all bb).2.1), (by exact (Spec.open_all bb).2.2.1), (by exact (Spec.open_all bb).2.2.2), hx19⟩
            ·
              have hb36 := of_decide_eq_false hb36
              refine st_op (ev_move rfl) rfl rfl rfl ?_
              refine st_op (ev_int rfl rfl rfl) rfl rfl rfl ?_
              refine st_op (ev_pickF rfl rfl) rfl rfl rfl ?_
              try show aw _ _ _ _ _ _
              by_cases hc38 : (decide (z25 > 4000)) = true
              · refine aw_condT hc38 rfl ?_
                try show aw _ _ _ _ _ _
                have hc38 := of_decide_eq_true hc38
                refine aw_seq ?_
                refine aw_reg ?_
                refine st_op (ev_assign rfl) rfl rfl rfl ?_
                refine st_op (ev_assign rfl) rfl rfl rfl ?_
                refine st_op (ev_assign rfl) rfl rfl rfl ?_
                refine st_op (ev_assign rfl) rfl rfl rfl ?_
                try show aw _ _ _ _ _ _
                refine aw_ret ?_
                have hr39 : Row H18 none 0 1 (([] : List Int).map u8c) := .nil
                have hres : (Spec.openF b) = (0, ([] : List Int), 0, 3) := by first | (exfalso; omega) | (rw [Spec.openF_ne hx6 hL12 hR24]; (repeat (first | rfl | rw [if_neg (by omega)] | rw [if_pos (by omega)])) <;> (try (simp only [Prod.mk.injEq, true_and]; omega)))
                exact ⟨.tuple #[.int .i64 0, .slice none 0 0, .int .i64 0, .int .i64 3], rfl, none, 0, by rw [hres]; first | done | rfl | simp, (by rw [hres]; exact hr39), (by rw [hres]; exact (Nat.le_refl 0)), (by exact (Spec.open_all bb).1), (by exact (Spec.open_all bb).2.1), (by exact (Spec.open_all bb).2.2.1), (by exact (Spec.open_all bb).2.2.2), hx19⟩
              · rw [Bool.not_eq_true] at hc38; refine aw_condF hc38 rfl ?_
                try show aw _ _ _ _ _ _
                have hc38 := of_decide_eq_false hc38
                refine aw_skip ?_
                try show aw _ _ _ _ _ _
                refine aw_seq ?_
                refine aw_reg ?_
                refine st_op (ev_move rfl) rfl rfl rfl ?_
                refine st_op (ev_int64 (c := 1 + z26) rfl rfl rfl (by omega) (by omega)) rfl rfl rfl ?_
                refine st_op (ev_int64 (c := (1 + z26) + 4) rfl rfl rfl (by omega) (by omega)) rfl rfl rfl ?_
                refine st_op (ev_assign rfl) rfl rfl rfl ?_
                try show aw _ _ _ _ _ _
                refine aw_seq ?_
                refine aw_seq ?_
                refine aw_reg ?_
                refine st_op (ev_move rfl) rfl rfl rfl ?_
                refine st_op (ev_lenSl rfl Try.underlying30) rfl rfl rfl ?_
                refine st_op (ev_move rfl) rfl rfl rfl ?_
                refine st_op (ev_move rfl) rfl rfl rfl ?_
                refine st_op (ev_int64 (c := ((1 + z26) + 4) + z25) rfl rfl rfl (by omega) (by omega)) rfl rfl rfl ?_
                refine st_op (ev_int rfl rfl rfl) rfl rfl rfl ?_
                try show aw _ _ _ _ _ _
                by_cases hc40 : (decide ((b.length : Int) < ((1 + z26) + 4) + z25)) = true
                · refine aw_condT hc40 rfl ?_
                  try show aw _ _ _ _ _ _
                  have hc40 := of_decide_eq_true hc40
                  refine aw_seq ?_
                  refine aw_reg ?_
                  refine st_op (ev_assign rfl) rfl rfl rfl ?_
                  refine st_op (ev_assign rfl) rfl rfl rfl ?_
                  refine st_op (ev_assign rfl) rfl rfl rfl ?_
                  refine st_op (ev_assign rfl) rfl rfl rfl ?_
                  try show aw _ _ _ _ _ _
                  refine aw_ret ?_
                  have hr41 : Row H18 none 0 1 (([] : List Int).map u8c) := .nil
                  have hres : (Spec.openF b) = (0, ([] : List Int), 0, 2) := by first | (exfalso; omega) | (rw [Spec.openF_ne hx6 hL12 hR24]; (repeat (first | rfl | rw [if_neg (by omega)] | rw [if_pos (by omega)])) <;> (try (simp only [Prod.mk.injEq, true_and]; omega)))
                  exact ⟨.tuple #[.int .i64 0, .slice none 0 0, .int .i64 0, .int .i64 2], rfl, none, 0, by rw [hres]; first | done | rfl | simp, (by rw [hres]; exact hr41), (by rw [hres]; exact (Nat.le_refl 0)), (by exact (Spec.open_all bb).1), (by exact (Spec.open_all bb).2.1), (by exact (Spec.open_all bb).2.2.1), (by exact (Spec.open_all bb).2.2.2), hx19⟩
                · rw [Bool.not_eq_true] at hc40; refine aw_condF hc40 rfl ?_
                  try show aw _ _ _ _ _ _
                  have hc40 := of_decide_eq_false hc40
                  refine aw_skip ?_
                  try show aw _ _ _ _ _ _
                  refine aw_seq ?_
                  refine aw_reg ?_
                  refine st_op (ev_move rfl) rfl rfl rfl ?_
                  refine st_op (ev_move rfl) rfl rfl rfl ?_
                  refine st_op (ev_move rfl) rfl rfl rfl ?_
                  refine st_op (ev_move rfl) rfl rfl rfl ?_
                  refine st_op (ev_int64 (c := ((1 + z26) + 4) + z25) rfl rfl rfl (by omega) (by omega)) rfl rfl rfl ?_
                  have h50 := Row.ext hb hx19
                  obtain ⟨A42, c43, L44, hL45, hl46, hs47, hr48, hc49⟩ := sliceA_typed u8c el30 (by decide) h50 cb (lo := some (.int .i64 ((1 + z26) + 4))) (hi := some (.int .i64 (((1 + z26) + 4) + z25))) (l := (((1 + z26) + 4)).toNat) (h := ((((1 + z26) + 4) + z25)).toNat) (by rw [Option.isSome_some, if_pos rfl]; exact bound_int (by first | omega | (simp only [List.length_append, List.length_cons, List.length_nil, List.length_map, List.length_set, List.length_replicate, Spec.bytesOf_length]; omega) | (simp; omega)) (by first | omega | (simp only [List.length_append, List.length_cons, List.length_nil, List.length_map, List.length_set, List.length_replicate, Spec.bytesOf_length]; omega) | (simp; omega)) (by first | rfl | omega)) (bound_int (by first | omega | (simp only [List.length_append, List.length_cons, List.length_nil, List.length_map, List.length_set, List.length_replicate, Spec.bytesOf_length]; omega) | (simp; omega)) (by first | omega | (simp only [List.length_append, List.length_cons, List.length_nil, List.length_map, List.length_set, List.length_replicate, Spec.bytesOf_length]; omega) | (simp; omega)) (by first | rfl | omega)) (by first | omega | (simp only [List.length_append, List.length_cons, List.length_nil, List.length_map, List.length_set, List.length_replicate, Spec.bytesOf_length]; omega) | (simp; omega)) (by first | omega | (simp only [List.length_append, List.length_cons, List.length_nil, List.length_map, List.length_set, List.length_replicate, Spec.bytesOf_length]; omega) | (simp; omega))
                  refine st_op (ev_slice rfl rfl rfl rfl hs47) rfl rfl rfl ?_
                  have hL45b : Spec.Bytes L44 := by rw [hL45]; exact Spec.Bytes.take (Spec.Bytes.drop (by first | assumption | exact Spec.Bytes.nil | exact Spec.bytes_of _ | (repeat' first | assumption | exact Spec.Bytes.nil | exact Spec.bytes_of _ | exact Spec.enc_bytes _ | exact Spec.four_bytes _ | exact Spec.sealF_bytes (by assumption) | apply Spec.Bytes.append | apply Spec.Bytes.cons (by omega) | apply Spec.Bytes.take | apply Spec.Bytes.drop)) _) _
                  refine st_op (ev_assign rfl) rfl rfl rfl ?_
                  try show aw _ _ _ _ _ _
                  refine aw_seq ?_
                  refine aw_seq ?_
                  refine aw_marks (fun b => b < H18.next) [(false, false), (false, false), (false, false), (false, false), (false, false), (false, true), (false, false), (false, false), (false, false), (false, false), (false, false), (true, false), (true, false), (false, false)] mixed (by kernel_rfl) (by kernel_rfl) ?_
                  refine sm_op (ev_move rfl) rfl rfl rfl ?_
                  have hi51 : 0 ≤ (0 : Int) := by omega
                  have hi52 : (0 : Int) < ((b.length : Nat) : Int) := by first | omega | (simp only [List.length_append, List.length_cons, List.length_nil, List.length_map, List.length_set, List.length_replicate, Spec.bytesOf_length]; omega) | (simp; omega)
                  refine sm_op (ev_at rfl rfl h50 (getMap u8c hx6) (by first | rfl | omega | simp) hi51 hi52 el30) rfl rfl rfl ?_
                  refine sm_op (ev_atL rfl h50 (getMap u8c hx6) one5 rfl) rfl rfl rfl ?_
                  refine sm_op (ev_convI Try.underlying5 Try.underlying3 rfl (wrI64 (by omega) (by omega))) rfl rfl rfl ?_
                  refine sm_op (ev_move rfl) rfl rfl rfl ?_
                  refine sm_call rfl rfl rfl ent35 rfl rfl rfl ?_
                  obtain ⟨_, H54, hs53, A56, c57, hs53v, hm58, hq59, hq60, hx55⟩ := ref1_Seal_spec H18 x5 ⟨by omega, by omega⟩ A42 L44 c43 hr48 hc49 (by first | omega | (simp only [List.length_append, List.length_cons, List.length_nil, List.length_map, List.length_set, List.length_replicate, Spec.bytesOf_length]; omega) | (simp; omega)) (by first | assumption | exact Spec.Bytes.nil | exact Spec.bytes_of _ | (repeat' first | assumption | exact Spec.Bytes.nil | exact Spec.bytes_of _ | exact Spec.enc_bytes _ | exact Spec.four_bytes _ | exact Spec.sealF_bytes (by assumption) | apply Spec.Bytes.append | apply Spec.Bytes.cons (by omega) | apply Spec.Bytes.take | apply Spec.Bytes.drop))
                  rw [hs53v] at hs53; clear hs53v
                  refine ⟨_, H54, hs53, (fun _ b hb => hx55.2 b (by omega)), ?_⟩
                  have H54n : H18.next ≤ H54.next := hx55.1
                  refine sm_op (ev_strOf (l := (Spec.sealF x5 L44)) (A := A56) (c := c57) slu8_30 isstr_9 rfl (My.anil hm58) (My.row hm58)) rfl rfl rfl ?_
                  refine sm_op (ev_move rfl) rfl rfl rfl ?_
                  refine sm_op (ev_move rfl) rfl rfl rfl ?_
                  refine sm_op (ev_move rfl) rfl rfl rfl ?_
                  refine sm_op (ev_int64 (c := ((1 + z26) + 4) + z25) rfl rfl rfl (by omega) (by omega)) rfl rfl rfl ?_
                  have h69 := Row.ext h50 hx55
                  obtain ⟨A61, c62, L63, hL64, hl65, hs66, hr67, hc68⟩ := sliceA_typed u8c el30 (by decide) h69 cb (lo := none) (hi := some (.int .i64 (((1 + z26) + 4) + z25))) (l := 0) (h := ((((1 + z26) + 4) + z25)).toNat) (by rw [Option.isSome_some, if_pos rfl]; exact bound_int (by first | omega | (simp only [List.length_append, List.length_cons, List.length_nil, List.length_map, List.length_set, List.length_replicate, Spec.bytesOf_length]; omega) | (simp; omega)) (by first | omega | (simp only [List.length_append, List.length_cons, List.length_nil, List.length_map, List.length_set, List.length_replicate, Spec.bytesOf_length]; omega) | (simp; omega)) (by first | rfl | omega)) rfl (by first | omega | (simp only [List.length_append, List.length_cons, List.length_nil, List.length_map, List.length_set, List.length_replicate, Spec.bytesOf_length]; omega) | (simp; omega)) (by first | omega | (simp only [List.length_append, List.length_cons, List.length_nil, List.length_map, List.length_set, List.length_replicate, Spec.bytesOf_length]; omega) | (simp; omega))
                  refine sm_read (ev_slice rfl rfl rfl rfl hs66) rfl rfl rfl (fun q hq => Nat.lt_of_lt_of_le (rd_slice rfl rfl h50 hq) (by omega)) ?_
                  have hL64b : Spec.Bytes L63 := by rw [hL64]; exact Spec.Bytes.take (Spec.Bytes.drop (by first | assumption | exact Spec.Bytes.nil | exact Spec.bytes_of _ | (repeat' first | assumption | exact Spec.Bytes.nil | exact Spec.bytes_of _ | exact Spec.enc_bytes _ | exact Spec.four_bytes _ | exact Spec.sealF_bytes (by assumption) | apply Spec.Bytes.append | apply Spec.Bytes.cons (by omega) | apply Spec.Bytes.take | apply Spec.Bytes.drop)) _) _
                  refine sm_read (ev_strOf (l := L63) (A := A61) (c := c62) slu8_30 isstr_9 rfl (fun h => sliceA_none el30 (h ▸ hs66)) hr67) rfl rfl rfl (fun q hq => Nat.lt_of_lt_of_le (rd_conv2 rfl rfl el30 hs66 h50 (by first | omega | (simp only [List.length_append, List.length_cons, List.length_nil, List.length_map, List.length_set, List.length_replicate, Spec.bytesOf_length]; omega) | (simp; omega)) hq) (by omega)) ?_
                  refine sm_op (ev_str rfl rfl rfl) rfl rfl rfl ?_
                  try show aw _ _ _ _ _ _
                  by_cases hc70 : (!(((strOfNums (Spec.sealF x5 L44))).toList == ((strOfNums L63)).toList)) = true
                  · refine aw_condT hc70 rfl ?_
                    try show aw _ _ _ _ _ _
                    replace hc70 : (((strOfNums (Spec.sealF x5 L44))).toList == ((strOfNums L63)).toList) = false := by rw [Bool.not_eq_true'] at hc70; exact hc70
                    have hc70 := ne_of_beq_false hc70
                    refine aw_seq ?_
                    refine aw_reg ?_
                    refine st_op (ev_assign rfl) rfl rfl rfl ?_
                    refine st_op (ev_assign rfl) rfl rfl rfl ?_
                    refine st_op (ev_assign rfl) rfl rfl rfl ?_
                    refine st_op (ev_assign rfl) rfl rfl rfl ?_
                    try show aw _ _ _ _ _ _
                    refine aw_ret ?_
                    have hr71 : Row H54 none 0 1 (([] : List Int).map u8c) := .nil
                    have hx72 : Ext H H54 := (Ext.trans hx19 hx55)
                    have hres : (Spec.openF b) = (0, ([] : List Int), 0, 3) := by first | (exfalso; omega) | exact (Spec.openR_end bb hx6 hL12 (by rw [hR24]; congr 2 <;> omega) (by omega) (by omega) (by omega) (by omega) hL45 hL64).2 (by assumption) | exact (Spec.openR_end bb hx6 hL12 (by rw [hR24]; congr 2 <;> omega) (by omega) (by omega) (by omega) (by omega) hL45 hL64).1 (by assumption)
                    exact ⟨.tuple #[.int .i64 0, .slice none 0 0, .int .i64 0, .int .i64 3], rfl, none, 0, by rw [hres]; first | done | rfl | simp, (by rw [hres]; exact hr71), (by rw [hres]; exact (Nat.le_refl 0)), (by exact (Spec.open_all bb).1), (by exact (Spec.open_all bb).2.1), (by exact (Spec.open_all bb).2.2.1), (by exact (Spec.open_all bb).2.2.2), hx72⟩
                  · rw [Bool.not_eq_true] at hc70; refine aw_condF hc70 rfl ?_
                    try show aw _ _ _ _ _ _
                    replace hc70 : (((strOfNums (Spec.sealF x5 L44))).toList == ((strOfNums L63)).toList) = true := by rw [Bool.not_eq_false'] at hc70; exact hc70
                    have hc70 := eq_of_beq hc70
                    refine aw_skip ?_
                    try show aw _ _ _ _ _ _
                    refine aw_seq ?_
                    refine aw_reg ?_
                    refine st_op (ev_move rfl) rfl rfl rfl ?_
                    have hi73 : 0 ≤ (0 : Int) := by omega
                    have hi74 : (0 : Int) < ((b.length : Nat) : Int) := by first | omega | (simp only [List.length_append, List.length_cons, List.length_nil, List.length_map, List.length_set, List.length_replicate, Spec.bytesOf_length]; omega) | (simp; omega)
                    refine st_op (ev_at rfl rfl h69 (getMap u8c hx6) (by first | rfl | omega | simp) hi73 hi74 el30) rfl rfl rfl ?_
                    refine st_op (ev_atL rfl h69 (getMap u8c hx6) one5 rfl) rfl rfl rfl ?_
                    refine st_op (ev_convI Try.underlying5 Try.underlying3 rfl (wrI64 (by omega) (by omega))) rfl rfl rfl ?_
                    refine st_op (ev_move rfl) rfl rfl rfl ?_
                    refine st_op (ev_move rfl) rfl rfl rfl ?_
                    refine st_op (ev_move rfl) rfl rfl rfl ?_
                    refine st_op (ev_int64 (c := ((1 + z26) + 4) + z25) rfl rfl rfl (by omega) (by omega)) rfl rfl rfl ?_
                    refine st_op (ev_assign rfl) rfl rfl rfl ?_
                    refine st_op (ev_assign rfl) rfl rfl rfl ?_
                    refine st_op (ev_assign rfl) rfl rfl rfl ?_
                    refine st_op (ev_assign rfl) rfl rfl rfl ?_
                    try show aw _ _ _ _ _ _
                    refine aw_ret ?_
                    have h75 := Row.ext hr48 hx55
                    have hx76 : Ext H H54 := (Ext.trans hx19 hx55)
                    have hres : (Spec.openF b) = (x5, L44, ((1 + z26) + 4) + z25, 0) := by first | (exfalso; omega) | exact (Spec.openR_end bb hx6 hL12 (by rw [hR24]; congr 2 <;> omega) (by omega) (by omega) (by omega) (by omega) hL45 hL64).2 (by assumption) | exact (Spec.openR_end bb hx6 hL12 (by rw [hR24]; congr 2 <;> omega) (by omega) (by omega) (by omega) (by omega) hL45 hL64).1 (by assumption)
                    exact ⟨.tuple #[.int .i64 x5, .slice A42 L44.length c43, .int .i64 (((1 + z26) + 4) + z25), .int .i64 0], rfl, A42, c43, by rw [hres]; first | done | rfl | simp, (by rw [hres]; exact h75), (by rw [hres]; exact hc49), (by exact (Spec.open_all bb).1), (by exact (Spec.open_all bb).2.1), (by exact (Spec.open_all bb).2.2.1), (by exact (Spec.open_all bb).2.2.2), hx76⟩
theorem ref17_numbers_spec (H : Heap) (bA : Option Addr) (b : List Int) (bc : Nat) (hb : Row H bA bc 1 (b.map u8c)) (cb : b.length ≤ bc) (lb : b.length ≤ 1099511627776) (bb : Spec.Bytes b) (n : Int) (hn : 0 ≤ n ∧ n ≤ 100) : ∃ v H', Spec Try.prog 43 [.slice bA b.length bc, .int .i64 n] H v H' ∧ (∃ rA0 rc0, ∃ rA1 rc1, (v = .tuple #[.slice rA0 (((Spec.numsF n.toNat b []).1).length) rc0, .slice rA1 (((Spec.numsF n.toNat b []).2.1).length) rc1, .bool ((Spec.numsF n.toNat b []).2.2)]) ∧ (My H H' rA0 rc0 1 (((Spec.numsF n.toNat b []).1).map i64c)) ∧ (Row H' rA1 rc1 1 (((Spec.numsF n.toNat b []).2.1).map u8c)) ∧ (((Spec.numsF n.toNat b []).2.1).length ≤ rc1) ∧ (Spec.Bytes (Spec.numsF n.toNat b []).2.1) ∧ ((Spec.numsF n.toNat b []).2.1.length ≤ b.length) ∧ (Spec.Ints (Spec.numsF n.toNat b []).1) ∧ (((Spec.numsF n.toNat b []).2.2 = true → ((Spec.numsF n.toNat b []).1.length : Int) = n)) ∧ (Ext H H')) := by
  refine spec_go2 E0_ok 34 (f := 43) Try.func43 rfl rfl rfl ?_
  refine aw_seq ?_
  refine aw_reg ?_
  refine st_op (ev_assign rfl) rfl rfl rfl ?_
  refine st_op (ev_assign rfl) rfl rfl rfl ?_
  refine st_op (ev_assign rfl) rfl rfl rfl ?_
  try show aw _ _ _ _ _ _
  refine aw_seq ?_
  refine aw_reg ?_
  refine st_op (ev_assign rfl) rfl rfl rfl ?_
  try show aw _ _ _ _ _ _
  refine aw_seq ?_
  refine aw_seq ?_
  refine aw_reg ?_
  refine st_op (ev_assign rfl) rfl rfl rfl ?_
  try show aw _ _ _ _ _ _
  refine aw_block ?_
  have hm4 : My H H none 0 1 (([] : List Int).map i64c) := .nil
  refine aw_keep [0, 1, 7, 8] (l' := (.cons 0 (.slice bA b.length bc) (.cons 1 (.int .i64 n) (.cons 7 (.slice none 0 0) (.cons 8 (.int .i64 0) .nil))))) (by repeat (first | exact Up.done | refine Up.then ?_ | refine Up.inBlock ?_)) rfl ?_
  refine aw_iter (α := Nat × Option Addr × Nat × List Int × Option Addr × Nat × List Int × Heap) (fun a => n.toNat - a.1) (fun a => (.cons 0 (.slice a.2.1 a.2.2.2.1.length a.2.2.1) (.cons 1 (.int .i64 n) (.cons 7 (.slice a.2.2.2.2.1 a.2.2.2.2.2.2.1.length a.2.2.2.2.2.1) (.cons 8 (.int .i64 (a.1 : Int)) .nil))))) (fun a => a.2.2.2.2.2.2.2) (fun a => ((a.1 : Int) ≤ n) ∧ (Spec.numsF n.toNat b [] = Spec.numsF (n.toNat - a.1) a.2.2.2.1 a.2.2.2.2.2.2.1) ∧ (Spec.Bytes a.2.2.2.1) ∧ (a.2.2.2.1.length ≤ b.length) ∧ (a.2.2.2.2.2.2.1.length = a.1) ∧ (Spec.Ints a.2.2.2.2.2.2.1) ∧ (∀ H0, Row H0 bA bc 1 (b.map u8c) → Row H0 a.2.1 a.2.2.1 1 (a.2.2.2.1.map u8c)) ∧ (a.2.2.2.1.length ≤ a.2.2.1) ∧ (My H a.2.2.2.2.2.2.2 a.2.2.2.2.1 a.2.2.2.2.2.1 1 (a.2.2.2.2.2.2.1.map i64c)) ∧ (Ext H a.2.2.2.2.2.2.2)) (0, bA, bc, b, none, 0, ([] : List Int), H) ⟨(show (0 : Int) ≤ n from (by omega)), (show Spec.numsF n.toNat b [] = Spec.numsF (n.toNat - 0) b ([] : List Int) from rfl), (show Spec.Bytes b from bb), (show b.length ≤ b.length from Nat.le_refl _), (show ([] : List Int).length = 0 from rfl), (show Spec.Ints ([] : List Int) from (fun x hx => nomatch hx)), (show ∀ H0, Row H0 bA bc 1 (b.map u8c) → Row H0 bA bc 1 (b.map u8c) from (fun _ h => h)), (show b.length ≤ bc from cb), (show My H H none 0 1 (([] : List Int).map i64c) from hm4), (show Ext H H from (Ext.refl H))⟩ ?_
  rintro ⟨i, A2, c2, l, A, cp, acc, Hl1⟩ ⟨hi, hv, hbl, hll, hal, hin, hr2, hr3, hm5, hxl6⟩ ih7
  replace hi : (i : Int) ≤ n := hi
  replace hv : Spec.numsF n.toNat b [] = Spec.numsF (n.toNat - i) l acc := hv
  replace hbl : Spec.Bytes l := hbl
  replace hll : l.length ≤ b.length := hll
  replace hal : acc.length = i := hal
  replace hin : Spec.Ints acc := hin
  replace hr2 : ∀ H0, Row H0 bA bc 1 (b.map u8c) → Row H0 A2 c2 1 (l.map u8c) := hr2
  replace hr3 : l.length ≤ c2 := hr3
  replace hm5 : My H Hl1 A cp 1 (acc.map i64c) := hm5
  replace hxl6 : Ext H Hl1 := hxl6
  show aw _ _ _ (RL _ (.cons 0 (.slice A2 l.length c2) (.cons 1 (.int .i64 n) (.cons 7 (.slice A acc.length cp) (.cons 8 (.int .i64 (i : Int)) .nil))))) Hl1 _
  have Hl1n : H.next ≤ Hl1.next := hxl6.1
  have h9 := Row.ext hb hxl6
  have h8 := hr2 _ h9
  refine aw_seq ?_
  refine aw_seq ?_
  refine aw_reg ?_
  refine st_op (ev_move rfl) rfl rfl rfl ?_
  refine st_op (ev_move rfl) rfl rfl rfl ?_
  refine st_op (ev_int rfl rfl rfl) rfl rfl rfl ?_
  try show aw _ _ _ _ _ _
  by_cases hc10 : (decide ((i : Int) < n)) = true
  · refine aw_condT hc10 rfl ?_
    try show aw _ _ _ _ _ _
    have hc10 := of_decide_eq_true hc10
    refine aw_skip ?_
    try show aw _ _ _ _ _ _
    refine aw_seq ?_
    refine aw_block ?_
    refine aw_seq ?_
    refine aw_reg ?_
    refine st_op (ev_move rfl) rfl rfl rfl ?_
    refine st_call rfl rfl rfl ent52 rfl rfl rfl ?_
    obtain ⟨_, H12, hs11, hs11v, hq14, hq15, hq16, hx13⟩ := ref1_Get_spec Hl1 A2 l c2 h8 hr3 (by first | omega | (simp only [List.length_append, List.length_cons, List.length_nil, List.length_map, List.length_set, List.length_replicate, Spec.bytesOf_length]; omega) | (simp; omega)) (by first | assumption | exact Spec.Bytes.nil | exact Spec.bytes_of _ | (repeat' first | assumption | exact Spec.Bytes.nil | exact Spec.bytes_of _ | exact Spec.enc_bytes _ | exact Spec.four_bytes _ | exact Spec.sealF_bytes (by assumption) | apply Spec.Bytes.append | apply Spec.Bytes.cons (by omega) | apply Spec.Bytes.take | apply Spec.Bytes.drop))
    rw [hs11v] at hs11; clear hs11v
    generalize hR18 : (Spec.numGet 0 0 l) = r17 at hs11 hq14 hq15 hq16
    obtain ⟨z19, z20, z21⟩ := r17
    dsimp only at hs11 hq14 hq15 hq16
    refine ⟨_, H12, hs11, ?_⟩
    have H12n : Hl1.next ≤ H12.next := hx13.1
    refine st_op (ev_move rfl) rfl rfl rfl ?_
    refine st_op (ev_extract rfl rfl) rfl rfl rfl ?_
    refine st_op (ev_extract rfl rfl) rfl rfl rfl ?_
    refine st_op (ev_extract rfl rfl) rfl rfl rfl ?_
    refine st_op (ev_assign rfl) rfl rfl rfl ?_
    refine st_op (ev_assign rfl) rfl rfl rfl ?_
    refine st_op (ev_assign rfl) rfl rfl rfl ?_
    try show aw _ _ _ _ _ _
    refine aw_seq ?_
    refine aw_seq ?_
    refine aw_reg ?_
    refine st_op (ev_move rfl) rfl rfl rfl ?_
    refine st_op (ev_int rfl rfl rfl) rfl rfl rfl ?_
    try show aw _ _ _ _ _ _
    by_cases hc22 : (z21 != 0) = true
    · refine aw_condT hc22 rfl ?_
      try show aw _ _ _ _ _ _
      have hc22 : ¬ (z21 = 0) := by simpa using hc22
      refine aw_seq ?_
      refine aw_reg ?_
      refine st_op (ev_assign rfl) rfl rfl rfl ?_
      refine st_op (ev_assign rfl) rfl rfl rfl ?_
      refine st_op (ev_assign rfl) rfl rfl rfl ?_
      try show aw _ _ _ _ _ _
      refine aw_ret ?_
      have hm23 : My H12 H12 none 0 1 (([] : List Int).map i64c) := .nil
      have hr24 : Row H12 none 0 1 (([] : List Int).map u8c) := .nil
      have hx25 : Ext H H12 := (Ext.trans hxl6 hx13)
      have hres : (Spec.numsF n.toNat b []) = (([] : List Int), ([] : List Int), false) := by rw [hv, show n.toNat - i = (n.toNat - (i + 1)) + 1 by omega, Spec.numsF, hR18]; simp only; rw [if_neg (by omega)]
      exact ⟨.tuple #[.slice none 0 0, .slice none 0 0, .bool false], rfl, none, 0, none, 0, by rw [hres]; first | done | rfl | simp, (by rw [hres]; exact (My.older hm23 (by omega))), (by rw [hres]; exact hr24), (by rw [hres]; exact (Nat.le_refl 0)), (by rw [hres]; exact Spec.Bytes.nil), (by rw [hres]; exact Nat.zero_le _), (by rw [hres]; exact fun x hx => nomatch hx), (by rw [hres]; exact fun h => Bool.noConfusion h), hx25⟩
    · rw [Bool.not_eq_true] at hc22; refine aw_condF hc22 rfl ?_
      try show aw _ _ _ _ _ _
      have hc22 : (z21 = 0) := by simpa using hc22
      refine aw_skip ?_
      try show aw _ _ _ _ _ _
      refine aw_seq ?_
      refine aw_reg ?_
      refine st_op (ev_move rfl) rfl rfl rfl ?_
      refine st_op (ev_move rfl) rfl rfl rfl ?_
      obtain ⟨b26, H27, he28, b26e, H27n_, hm30, f29⟩ := mem_lit H12 (xs := [.int .i64 z19]) (m := 1) (rows := [[.int .i64 z19]]) rfl eok81 (by decide) (by decide) zf2 rfl (allLen rfl) rfl
      replace hm30 : My H12 H27 (some ⟨b26, 0, none⟩) 1 1 ([z19].map i64c) := hm30
      refine st_op (he28 _ _ _ _ _ _ _ _ rfl) rfl rfl rfl ?_
      have hx31 : Ext H12 H27 := Ext.new (by omega) H27n_ f29
      have H27n : H12.next ≤ H27.next := hx31.1
      have hx33 : Ext Hl1 H27 := (Ext.trans hx13 hx31)
      have h32 := My.ext hm5 hx33
      obtain ⟨A34, c35, H36, W37, he38, hm39, hf40⟩ := mem_append (f := i64c) (old := acc) (new := [z19]) (m := acc.length) (mx := 1) (c := cp) (by first | rfl | simp) (by first | rfl | simp) eok81 (by decide) hm5 h32 (by omega) (((My.row hm30)).srcF (by decide) (by first | rfl | simp)) rfl i64c_len i64c_one (by first | omega | (simp only [List.length_append, List.length_cons, List.length_nil, List.length_map, List.length_set, List.length_replicate, Spec.bytesOf_length]; omega) | (simp; omega)) (by first | omega | (simp only [List.length_append, List.length_cons, List.length_nil, List.length_map, List.length_set, List.length_replicate, Spec.bytesOf_length]; omega) | (simp; omega))
      refine st_op (he38 _ _ _ _ _ _ _ _ _ _ rfl rfl isrow81) rfl rfl rfl ?_
      have H36n : H27.next ≤ H36.next := hf40.1
      refine st_op (ev_assign rfl) rfl rfl rfl ?_
      try show aw _ _ _ _ _ _
      refine aw_reg ?_
      refine st_op (ev_move rfl) rfl rfl rfl ?_
      refine st_op (ev_move rfl) rfl rfl rfl ?_
      have hx51 : Ext H H36 := (Ext.then (Ext.trans (Ext.trans hxl6 hx13) hx31) hf40 (fun q hq e => by omega))
      have h50 := Row.ext hb hx51
      have h49 := hr2 _ h50
      obtain ⟨A41, c42, L43, hL44, hl45, hs46, hr47, hc48⟩ := sliceA_typed u8c el30 (by decide) h49 hr3 (lo := some (.int .i64 z20)) (hi := none) (l := (z20).toNat) (h := l.length) rfl (bound_int (by first | omega | (simp only [List.length_append, List.length_cons, List.length_nil, List.length_map, List.length_set, List.length_replicate, Spec.bytesOf_length]; omega) | (simp; omega)) (by first | omega | (simp only [List.length_append, List.length_cons, List.length_nil, List.length_map, List.length_set, List.length_replicate, Spec.bytesOf_length]; omega) | (simp; omega)) (by first | rfl | omega)) (by first | omega | (simp only [List.length_append, List.length_cons, List.length_nil, List.length_map, List.length_set, List.length_replicate, Spec.bytesOf_length]; omega) | (simp; omega)) (by first | omega | (simp only [List.length_append, List.length_cons, List.length_nil, List.length_map, List.length_set, List.length_replicate, Spec.bytesOf_length]; omega) | (simp; omega))
      have hs52 := hs46
      refine st_op (ev_slice rfl rfl rfl rfl hs46) rfl rfl rfl ?_
      have hv53 := fun H0 k => sliceA_via u8c el30 (by decide) hr3 (lo := some (.int .i64 z20)) (hi := none) (l := (z20).toNat) (h := l.length) rfl (bound_int (by first | omega | (simp only [List.length_append, List.length_cons, List.length_nil, List.length_map, List.length_set, List.length_replicate, Spec.bytesOf_length]; omega) | (simp; omega)) (by first | omega | (simp only [List.length_append, List.length_cons, List.length_nil, List.length_map, List.length_set, List.length_replicate, Spec.bytesOf_length]; omega) | (simp; omega)) (by first | rfl | omega)) (by first | omega | (simp only [List.length_append, List.length_cons, List.length_nil, List.length_map, List.length_set, List.length_replicate, Spec.bytesOf_length]; omega) | (simp; omega)) (by first | omega | (simp only [List.length_append, List.length_cons, List.length_nil, List.length_map, List.length_set, List.length_replicate, Spec.bytesOf_length]; omega) | (simp; omega)) hL44 hs52 (hr2 H0 k)
      have hL44b : Spec.Bytes L43 := by rw [hL44]; exact Spec.Bytes.take (Spec.Bytes.drop (by first | assumption | exact Spec.Bytes.nil | exact Spec.bytes_of _ | (repeat' first | assumption | exact Spec.Bytes.nil | exact Spec.bytes_of _ | exact Spec.enc_bytes _ | exact Spec.four_bytes _ | exact Spec.sealF_bytes (by assumption) | apply Spec.Bytes.append | apply Spec.Bytes.cons (by omega) | apply Spec.Bytes.take | apply Spec.Bytes.drop)) _) _
      refine st_op (ev_assign rfl) rfl rfl rfl ?_
      try show aw _ _ _ _ _ _
      refine aw_reg ?_
      refine st_op (ev_move rfl) rfl rfl rfl ?_
      refine st_op (ev_int64 (c := (i : Int) + 1) rfl rfl rfl (by omega) (by omega)) rfl rfl rfl ?_
      refine st_op (ev_assign rfl) rfl rfl rfl ?_
      try show aw _ _ _ _ _ _
      refine aw_keep [0, 1, 7, 8] (l' := (.cons 0 (.slice A41 L43.length c42) (.cons 1 (.int .i64 n) (.cons 7 (.slice A34 ((acc ++ [z19]).length) c35) (.cons 8 (.int .i64 ((i : Int) + 1)) .nil))))) (by repeat (first | exact Up.done | refine Up.then ?_ | refine Up.inBlock ?_)) rfl ?_
      exact ih7 (i + 1, A41, c42, L43, A34, c35, (acc ++ [z19]), H36) ⟨(show ((i + 1) : Int) ≤ n from (by omega)), (show Spec.numsF n.toNat b [] = Spec.numsF (n.toNat - (i + 1)) L43 (acc ++ [z19]) from (by rw [hv, show n.toNat - i = (n.toNat - (i + 1)) + 1 by omega, Spec.numsF, hR18]; simp only; rw [if_pos (by omega), hL44, Spec.drop_all])), (show Spec.Bytes L43 from hL44b), (show L43.length ≤ b.length from (by rw [hL44, Spec.drop_all, List.length_drop]; omega)), (show (acc ++ [z19]).length = (i + 1) from (by rw [List.length_append, hal]; rfl)), (show Spec.Ints (acc ++ [z19]) from (Spec.Ints.snoc hin (by omega))), (show ∀ H0, Row H0 bA bc 1 (b.map u8c) → Row H0 A41 c42 1 (L43.map u8c) from hv53), (show L43.length ≤ c42 from hc48), (show My H H36 A34 c35 1 ((acc ++ [z19]).map i64c) from hm39), (show Ext H H36 from hx51)⟩ (by simp only; omega)
  · rw [Bool.not_eq_true] at hc10; refine aw_condF hc10 rfl ?_
    try show aw _ _ _ _ _ _
    have hc10 := of_decide_eq_false hc10
    refine aw_exit ?_
    try show aw _ _ _ _ _ _
    refine aw_seq ?_
    refine aw_reg ?_
    refine st_op (ev_move rfl) rfl rfl rfl ?_
    refine st_op (ev_move rfl) rfl rfl rfl ?_
    refine st_op (ev_assign rfl) rfl rfl rfl ?_
    refine st_op (ev_assign rfl) rfl rfl rfl ?_
    refine st_op (ev_assign rfl) rfl rfl rfl ?_
    try show aw _ _ _ _ _ _
    refine aw_ret ?_
    have hres : (Spec.numsF n.toNat b []) = (acc, l, true) := by rw [hv, show n.toNat - i = 0 by omega]; rfl
    exact ⟨.tuple #[.slice A acc.length cp, .slice A2 l.length c2, .bool true], rfl, A, cp, A2, c2, by rw [hres]; first | done | rfl | simp, (by rw [hres]; exact hm5), (by rw [hres]; exact h8), (by rw [hres]; exact hr3), (by rw [hres]; exact hbl), (by rw [hres]; exact hll), (by rw [hres]; exact hin), (by rw [hres]; exact fun _ => by rw [hal]; omega), hxl6⟩
theorem ref17_MayHard_spec (H : Heap) (h_term : Int) (h_vote : Int) : ∃ v H', Spec Try.prog 31 [.agg #[.int .i64 h_term, .int .i64 h_vote]] H v H' ∧ ((v = .bool (Spec.mayF true h_term h_vote 0 0 0 (⟨#[]⟩ : ByteArray))) ∧ (Ext H H')) := by
  refine spec_go1 E0_ok 21 (f := 31) Try.func31 rfl rfl rfl ?_
  refine aw_seq ?_
  refine aw_reg ?_
  obtain ⟨b1, H2, he3, b1e, H2n_, hB5, f4⟩ := mem_box (P := Try.prog) H (v := .agg #[.int .i64 h_term, .int .i64 h_vote]) (cs := [.int .i64 h_term, .int .i64 h_vote]) rfl rfl
  refine st_op (he3 _ _ _ _ _ _ _ _ _ rfl) rfl rfl rfl ?_
  have hx6 : Ext H H2 := Ext.new (by omega) H2n_ f4
  have H2n : H.next ≤ H2.next := hx6.1
  refine st_op (ev_assign rfl) rfl rfl rfl ?_
  try show aw _ _ _ _ _ _
  refine aw_seq ?_
  refine aw_reg ?_
  refine st_op (ev_fieldAddr rfl fa23_0 (o' := 0) rfl) rfl rfl rfl ?_
  refine st_op (ev_load rfl (lvar_one one2 hB5 rfl)) rfl rfl rfl ?_
  refine st_op (ev_int rfl rfl rfl) rfl rfl rfl ?_
  refine st_op (ev_move rfl) rfl rfl rfl ?_
  refine st_bool 6 rfl (fun hb7 => ?_) (fun hb7 => ?_)
  ·
    have hb7 := of_decide_eq_true hb7
    refine st_op (ev_fieldAddr rfl fa23_0 (o' := 0) rfl) rfl rfl rfl ?_
    refine st_op (ev_load rfl (lvar_one one2 hB5 rfl)) rfl rfl rfl ?_
    refine st_op (ev_int rfl rfl rfl) rfl rfl rfl ?_
    refine st_op (ev_pickT rfl rfl) rfl rfl rfl ?_
    refine st_op (ev_move rfl) rfl rfl rfl ?_
    refine st_bool 11 rfl (fun hb8 => ?_) (fun hb8 => ?_)
    ·
      have hb8 := of_decide_eq_true hb8
      refine st_op (ev_fieldAddr rfl fa23_1 (o' := 1) rfl) rfl rfl rfl ?_
      refine st_op (ev_load rfl (lvar_one one3 hB5 rfl)) rfl rfl rfl ?_
      refine st_op (ev_int rfl rfl rfl) rfl rfl rfl ?_
      refine st_op (ev_pickT rfl rfl) rfl rfl rfl ?_
      refine st_op (ev_move rfl) rfl rfl rfl ?_
      refine st_bool 16 rfl (fun hb9 => ?_) (fun hb9 => ?_)
      ·
        have hb9 := of_decide_eq_true hb9
        refine st_op (ev_fieldAddr rfl fa23_1 (o' := 1) rfl) rfl rfl rfl ?_
        refine st_op (ev_load rfl (lvar_one one3 hB5 rfl)) rfl rfl rfl ?_
        refine st_op (ev_int rfl rfl rfl) rfl rfl rfl ?_
        refine st_op (ev_pickT rfl rfl) rfl rfl rfl ?_
        refine st_op (ev_assign rfl) rfl rfl rfl ?_
        try show aw _ _ _ _ _ _
        refine aw_ret ?_
        have hres : (Spec.mayF true h_term h_vote 0 0 0 (⟨#[]⟩ : ByteArray)) = (decide (h_vote ≤ 7)) := by rw [Spec.mayH_eq, Bool.eq_iff_iff]; simp only [decide_eq_true_eq, Bool.false_eq_true, iff_false]; omega
        exact ⟨.bool (decide (h_vote ≤ 7)), rfl, by rw [hres], hx6⟩
      ·
        have hb9 := of_decide_eq_false hb9
        refine st_skip rfl rfl rfl ?_
        refine st_skip rfl rfl rfl ?_
        refine st_skip rfl rfl rfl ?_
        refine st_op (ev_pickF rfl rfl) rfl rfl rfl ?_
        refine st_op (ev_assign rfl) rfl rfl rfl ?_
        try show aw _ _ _ _ _ _
        refine aw_ret ?_
        have hres : (Spec.mayF true h_term h_vote 0 0 0 (⟨#[]⟩ : ByteArray)) = false := by rw [Spec.mayH_eq, Bool.eq_iff_iff]; simp only [decide_eq_true_eq, Bool.false_eq_true, iff_false]; omega
        exact ⟨.bool false, rfl, by rw [hres], hx6⟩
    ·
      have hb8 := of_decide_eq_false hb8
      refine st_skip rfl rfl rfl ?_
      refine st_skip rfl rfl rfl ?_
      refine st_skip rfl rfl rfl ?_
      refine st_op (ev_pickF rfl rfl) rfl rfl rfl ?_
      refine st_op (ev_move rfl) rfl rfl rfl ?_
      refine st_skip rfl rfl rfl ?_
      refine st_skip rfl rfl rfl ?_
      refine st_skip rfl rfl rfl ?_
      refine st_op (ev_pickF rfl rfl) rfl rfl rfl ?_
      refine st_op (ev_assign rfl) rfl rfl rfl ?_
      try show aw _ _ _ _ _ _
      refine aw_ret ?_
      have hres : (Spec.mayF true h_term h_vote 0 0 0 (⟨#[]⟩ : ByteArray)) = false := by rw [Spec.mayH_eq, Bool.eq_iff_iff]; simp only [decide_eq_true_eq, Bool.false_eq_true, iff_false]; omega
      exact ⟨.bool false, rfl, by rw [hres], hx6⟩
  ·
    have hb7 := of_decide_eq_false hb7
    refine st_skip rfl rfl rfl ?_
    refine st_skip rfl rfl rfl ?_
    refine st_skip rfl rfl rfl ?_
    refine st_op (ev_pickF rfl rfl) rfl rfl rfl ?_
    refine st_op (ev_move rfl) rfl rfl rfl ?_
    refine st_skip rfl rfl rfl ?_
    refine st_skip rfl rfl rfl ?_
    refine st_skip rfl rfl rfl ?_
    refine st_op (ev_pickF rfl rfl) rfl rfl rfl ?_
    refine st_op (ev_move rfl) rfl rfl rfl ?_
    refine st_skip rfl rfl rfl ?_
    refine st_skip rfl rfl rfl ?_
    refine st_skip rfl rfl rfl ?_
    refine st_op (ev_pickF rfl rfl) rfl rfl rfl ?_
    refine st_op (ev_assign rfl) rfl rfl rfl ?_
    try show aw _ _ _ _ _ _
    refine aw_ret ?_
    have hres : (Spec.mayF true h_term h_vote 0 0 0 (⟨#[]⟩ : ByteArray)) = false := by rw [Spec.mayH_eq, Bool.eq_iff_iff]; simp only [decide_eq_true_eq, Bool.false_eq_true, iff_false]; omega
    exact ⟨.bool false, rfl, by rw [hres], hx6⟩
theorem ref17_EqEntry_spec (H : Heap) (a_index : Int) (a_term : Int) (a_kind : Int) (a_data : ByteArray) (b_index : Int) (b_term : Int) (b_kind : Int) (b_data : ByteArray) : ∃ v H', Spec Try.prog 32 [.agg #[.int .i64 a_index, .int .i64 a_term, .int .i64 a_kind, .string a_data], .agg #[.int .i64 b_index, .int .i64 b_term, .int .i64 b_kind, .string b_data]] H v H' ∧ ((v = .bool (decide (a_index = b_index ∧ a_term = b_term ∧ a_kind = b_kind ∧ a_data = b_data))) ∧ (Ext H H')) := by
  refine spec_go2 E0_ok 31 (f := 32) Try.func32 rfl rfl rfl ?_
  refine aw_seq ?_
  refine aw_reg ?_
  obtain ⟨b1, H2, he3, b1e, H2n_, hB5, f4⟩ := mem_box (P := Try.prog) H (v := .agg #[.int .i64 a_index, .int .i64 a_term, .int .i64 a_kind, .string a_data]) (cs := [.int .i64 a_index, .int .i64 a_term, .int .i64 a_kind, .string a_data]) rfl rfl
  refine st_op (he3 _ _ _ _ _ _ _ _ _ rfl) rfl rfl rfl ?_
  have hx6 : Ext H H2 := Ext.new (by omega) H2n_ f4
  have H2n : H.next ≤ H2.next := hx6.1
  obtain ⟨b7, H8, he9, b7e, H8n_, hB11, f10⟩ := mem_box (P := Try.prog) H2 (v := .agg #[.int .i64 b_index, .int .i64 b_term, .int .i64 b_kind, .string b_data]) (cs := [.int .i64 b_index, .int .i64 b_term, .int .i64 b_kind, .string b_data]) rfl rfl
  refine st_op (he9 _ _ _ _ _ _ _ _ _ rfl) rfl rfl rfl ?_
  have hx12 : Ext H2 H8 := Ext.new (by omega) H8n_ f10
  have H8n : H2.next ≤ H8.next := hx12.1
  refine st_op (ev_assign rfl) rfl rfl rfl ?_
  try show aw _ _ _ _ _ _
  refine aw_seq ?_
  refine aw_reg ?_
  refine st_op (ev_fieldAddr rfl fa25_0 (o' := 0) rfl) rfl rfl rfl ?_
  have h13 := Ext.blk hx12 (by omega) hB5
  refine st_op (ev_load rfl (lvar_one one2 h13 rfl)) rfl rfl rfl ?_
  refine st_op (ev_fieldAddr rfl fa25_0 (o' := 0) rfl) rfl rfl rfl ?_
  refine st_op (ev_load rfl (lvar_one one2 hB11 rfl)) rfl rfl rfl ?_
  refine st_op (ev_int rfl rfl rfl) rfl rfl rfl ?_
  refine st_op (ev_move rfl) rfl rfl rfl ?_
  refine st_bool 10 rfl (fun hb14 => ?_) (fun hb14 => ?_)
  ·
    have hb14 := eq_of_beq hb14
    refine st_op (ev_fieldAddr rfl fa25_1 (o' := 1) rfl) rfl rfl rfl ?_
    refine st_op (ev_load rfl (lvar_one one2 h13 rfl)) rfl rfl rfl ?_
    refine st_op (ev_fieldAddr rfl fa25_1 (o' := 1) rfl) rfl rfl rfl ?_
    refine st_op (ev_load rfl (lvar_one one2 hB11 rfl)) rfl rfl rfl ?_
    refine st_op (ev_int rfl rfl rfl) rfl rfl rfl ?_
    refine st_op (ev_pickT rfl rfl) rfl rfl rfl ?_
    refine st_op (ev_move rfl) rfl rfl rfl ?_
    refine st_bool 17 rfl (fun hb15 => ?_) (fun hb15 => ?_)
    ·
      have hb15 := eq_of_beq hb15
      refine st_op (ev_fieldAddr rfl fa25_2 (o' := 2) rfl) rfl rfl rfl ?_
      refine st_op (ev_load rfl (lvar_one one3 h13 rfl)) rfl rfl rfl ?_
      refine st_op (ev_fieldAddr rfl fa25_2 (o' := 2) rfl) rfl rfl rfl ?_
      refine st_op (ev_load rfl (lvar_one one3 hB11 rfl)) rfl rfl rfl ?_
      refine st_op (ev_int rfl rfl rfl) rfl rfl rfl ?_
      refine st_op (ev_pickT rfl rfl) rfl rfl rfl ?_
      refine st_op (ev_move rfl) rfl rfl rfl ?_
      refine st_bool 24 rfl (fun hb16 => ?_) (fun hb16 => ?_)
      ·
        have hb16 := eq_of_beq hb16
        refine st_op (ev_fieldAddr rfl fa25_3 (o' := 3) rfl) rfl rfl rfl ?_
        refine st_op (ev_load rfl (lvar_one one9 h13 rfl)) rfl rfl rfl ?_
        refine st_op (ev_fieldAddr rfl fa25_3 (o' := 3) rfl) rfl rfl rfl ?_
        refine st_op (ev_load rfl (lvar_one one9 hB11 rfl)) rfl rfl rfl ?_
        refine st_op (ev_str rfl rfl rfl) rfl rfl rfl ?_
        refine st_op (ev_pickT rfl rfl) rfl rfl rfl ?_
        refine st_op (ev_assign rfl) rfl rfl rfl ?_
        try show aw _ _ _ _ _ _
        refine aw_ret ?_
        have hx17 : Ext H H8 := (Ext.trans hx6 hx12)
        have hres : (decide (a_index = b_index ∧ a_term = b_term ∧ a_kind = b_kind ∧ a_data = b_data)) = ((a_data).toList == (b_data).toList) := by rw [Bool.eq_iff_iff]; simp_all [Spec.ba_iff]
        exact ⟨.bool ((a_data).toList == (b_data).toList), rfl, by rw [hres], hx17⟩
      ·
        have hb16 := ne_of_beq_false hb16
        refine st_skip rfl rfl rfl ?_
        refine st_skip rfl rfl rfl ?_
        refine st_skip rfl rfl rfl ?_
        refine st_skip rfl rfl rfl ?_
        refine st_skip rfl rfl rfl ?_
        refine st_op (ev_pickF rfl rfl) rfl rfl rfl ?_
        refine st_op (ev_assign rfl) rfl rfl rfl ?_
        try show aw _ _ _ _ _ _
        refine aw_ret ?_
        have hx18 : Ext H H8 := (Ext.trans hx6 hx12)
        have hres : (decide (a_index = b_index ∧ a_term = b_term ∧ a_kind = b_kind ∧ a_data = b_data)) = false := by rw [Bool.eq_iff_iff]; simp_all [Spec.ba_iff]
        exact ⟨.bool false, rfl, by rw [hres], hx18⟩
    ·
      have hb15 := ne_of_beq_false hb15
      refine st_skip rfl rfl rfl ?_
      refine st_skip rfl rfl rfl ?_
      refine st_skip rfl rfl rfl ?_
      refine st_skip rfl rfl rfl ?_
      refine st_skip rfl rfl rfl ?_
      refine st_op (ev_pickF rfl rfl) rfl rfl rfl ?_
      refine st_op (ev_move rfl) rfl rfl rfl ?_
      refine st_skip rfl rfl rfl ?_
      refine st_skip rfl rfl rfl ?_
      refine st_skip rfl rfl rfl ?_
      refine st_skip rfl rfl rfl ?_
      refine st_skip rfl rfl rfl ?_
      refine st_op (ev_pickF rfl rfl) rfl rfl rfl ?_
      refine st_op (ev_assign rfl) rfl rfl rfl ?_
      try show aw _ _ _ _ _ _
      refine aw_ret ?_
      have hx19 : Ext H H8 := (Ext.trans hx6 hx12)
      have hres : (decide (a_index = b_index ∧ a_term = b_term ∧ a_kind = b_kind ∧ a_data = b_data)) = false := by rw [Bool.eq_iff_iff]; simp_all [Spec.ba_iff]
      exact ⟨.bool false, rfl, by rw [hres], hx19⟩
  ·
    have hb14 := ne_of_beq_false hb14
    refine st_skip rfl rfl rfl ?_
    refine st_skip rfl rfl rfl ?_
    refine st_skip rfl rfl rfl ?_
    refine st_skip rfl rfl rfl ?_
    refine st_skip rfl rfl rfl ?_
    refine st_op (ev_pickF rfl rfl) rfl rfl rfl ?_
    refine st_op (ev_move rfl) rfl rfl rfl ?_
    refine st_skip rfl rfl rfl ?_
    refine st_skip rfl rfl rfl ?_
    refine st_skip rfl rfl rfl ?_
    refine st_skip rfl rfl rfl ?_
    refine st_skip rfl rfl rfl ?_
    refine st_op (ev_pickF rfl rfl) rfl rfl rfl ?_
    refine st_op (ev_move rfl) rfl rfl rfl ?_
    refine st_skip rfl rfl rfl ?_
    refine st_skip rfl rfl rfl ?_
    refine st_skip rfl rfl rfl ?_
    refine st_skip rfl rfl rfl ?_
    refine st_skip rfl rfl rfl ?_
    refine st_op (ev_pickF rfl rfl) rfl rfl rfl ?_
    refine st_op (ev_assign rfl) rfl rfl rfl ?_
    try show aw _ _ _ _ _ _
    refine aw_ret ?_
    have hx20 : Ext H H8 := (Ext.trans hx6 hx12)
    have hres : (decide (a_index = b_index ∧ a_term = b_term ∧ a_kind = b_kind ∧ a_data = b_data)) = false := by rw [Bool.eq_iff_iff]; simp_all [Spec.ba_iff]
    exact ⟨.bool false, rfl, by rw [hres], hx20⟩
theorem ref17_MayEntry_spec (H : Heap) (e_index : Int) (e_term : Int) (e_kind : Int) (e_data : ByteArray) : ∃ v H', Spec Try.prog 33 [.agg #[.int .i64 e_index, .int .i64 e_term, .int .i64 e_kind, .string e_data]] H v H' ∧ ((v = .bool (Spec.mayF false 0 0 e_index e_term e_kind e_data)) ∧ (Ext H H')) := by
  refine spec_go1 E0_ok 37 (f := 33) Try.func33 rfl rfl rfl ?_
  refine aw_seq ?_
  refine aw_reg ?_
  obtain ⟨b1, H2, he3, b1e, H2n_, hB5, f4⟩ := mem_box (P := Try.prog) H (v := .agg #[.int .i64 e_index, .int .i64 e_term, .int .i64 e_kind, .string e_data]) (cs := [.int .i64 e_index, .int .i64 e_term, .int .i64 e_kind, .string e_data]) rfl rfl
  refine st_op (he3 _ _ _ _ _ _ _ _ _ rfl) rfl rfl rfl ?_
  have hx6 : Ext H H2 := Ext.new (by omega) H2n_ f4
  have H2n : H.next ≤ H2.next := hx6.1
  refine st_op (ev_assign rfl) rfl rfl rfl ?_
  try show aw _ _ _ _ _ _
  refine aw_seq ?_
  refine aw_reg ?_
  refine st_op (ev_fieldAddr rfl fa25_0 (o' := 0) rfl) rfl rfl rfl ?_
  refine st_op (ev_load rfl (lvar_one one2 hB5 rfl)) rfl rfl rfl ?_
  refine st_op (ev_int rfl rfl rfl) rfl rfl rfl ?_
  refine st_op (ev_move rfl) rfl rfl rfl ?_
  refine st_bool 6 rfl (fun hb7 => ?_) (fun hb7 => ?_)
  ·
    have hb7 := of_decide_eq_true hb7
    refine st_op (ev_fieldAddr rfl fa25_0 (o' := 0) rfl) rfl rfl rfl ?_
    refine st_op (ev_load rfl (lvar_one one2 hB5 rfl)) rfl rfl rfl ?_
    refine st_op (ev_int rfl rfl rfl) rfl rfl rfl ?_
    refine st_op (ev_pickT rfl rfl) rfl rfl rfl ?_
    refine st_op (ev_move rfl) rfl rfl rfl ?_
    refine st_bool 11 rfl (fun hb8 => ?_) (fun hb8 => ?_)
    ·
      have hb8 := of_decide_eq_true hb8
      refine st_op (ev_fieldAddr rfl fa25_1 (o' := 1) rfl) rfl rfl rfl ?_
      refine st_op (ev_load rfl (lvar_one one2 hB5 rfl)) rfl rfl rfl ?_
      refine st_op (ev_int rfl rfl rfl) rfl rfl rfl ?_
      refine st_op (ev_pickT rfl rfl) rfl rfl rfl ?_
      refine st_op (ev_move rfl) rfl rfl rfl ?_
      refine st_bool 16 rfl (fun hb9 => ?_) (fun hb9 => ?_)
      ·
        have hb9 := of_decide_eq_true hb9
        refine st_op (ev_fieldAddr rfl fa25_1 (o' := 1) rfl) rfl rfl rfl ?_
        refine st_op (ev_load rfl (lvar_one one2 hB5 rfl)) rfl rfl rfl ?_
        refine st_op (ev_int rfl rfl rfl) rfl rfl rfl ?_
        refine st_op (ev_pickT rfl rfl) rfl rfl rfl ?_
        refine st_op (ev_move rfl) rfl rfl rfl ?_
        refine st_bool 21 rfl (fun hb10 => ?_) (fun hb10 => ?_)
        ·
          have hb10 := of_decide_eq_true hb10
          refine st_op (ev_fieldAddr rfl fa25_2 (o' := 2) rfl) rfl rfl rfl ?_
          refine st_op (ev_load rfl (lvar_one one3 hB5 rfl)) rfl rfl rfl ?_
          refine st_op (ev_int rfl rfl rfl) rfl rfl rfl ?_
          refine st_op (ev_pickT rfl rfl) rfl rfl rfl ?_
          refine st_op (ev_move rfl) rfl rfl rfl ?_
          refine st_bool 26 rfl (fun hb11 => ?_) (fun hb11 => ?_)
          ·
            have hb11 := of_decide_eq_true hb11
            refine st_op (ev_fieldAddr rfl fa25_2 (o' := 2) rfl) rfl rfl rfl ?_
            refine st_op (ev_load rfl (lvar_one one3 hB5 rfl)) rfl rfl rfl ?_
            refine st_op (ev_int rfl rfl rfl) rfl rfl rfl ?_
            refine st_op (ev_pickT rfl rfl) rfl rfl rfl ?_
            refine st_op (ev_move rfl) rfl rfl rfl ?_
            refine st_bool 31 rfl (fun hb12 => ?_) (fun hb12 => ?_)
            ·
              have hb12 := of_decide_eq_true hb12
              refine st_op (ev_fieldAddr rfl fa25_3 (o' := 3) rfl) rfl rfl rfl ?_
              refine st_op (ev_load rfl (lvar_one one9 hB5 rfl)) rfl rfl rfl ?_
              refine st_op (ev_lenStr rfl Try.underlying9) rfl rfl rfl ?_
              refine st_op (ev_int rfl rfl rfl) rfl rfl rfl ?_
              refine st_op (ev_pickT rfl rfl) rfl rfl rfl ?_
              refine st_op (ev_assign rfl) rfl rfl rfl ?_
              try show aw _ _ _ _ _ _
              refine aw_ret ?_
              have hres : (Spec.mayF false 0 0 e_index e_term e_kind e_data) = (decide (((e_data).size : Int) ≤ 2500)) := by rw [Spec.mayE_eq, Bool.eq_iff_iff]; simp only [decide_eq_true_eq, Bool.false_eq_true, iff_false]; omega
              exact ⟨.bool (decide (((e_data).size : Int) ≤ 2500)), rfl, by rw [hres], hx6⟩
            ·
              have hb12 := of_decide_eq_false hb12
              refine st_skip rfl rfl rfl ?_
              refine st_skip rfl rfl rfl ?_
              refine st_skip rfl rfl rfl ?_
              refine st_skip rfl rfl rfl ?_
              refine st_op (ev_pickF rfl rfl) rfl rfl rfl ?_
              refine st_op (ev_assign rfl) rfl rfl rfl ?_
              try show aw _ _ _ _ _ _
              refine aw_ret ?_
              have hres : (Spec.mayF false 0 0 e_index e_term e_kind e_data) = false := by rw [Spec.mayE_eq, Bool.eq_iff_iff]; simp only [decide_eq_true_eq, Bool.false_eq_true, iff_false]; omega
              exact ⟨.bool false, rfl, by rw [hres], hx6⟩
          ·
            have hb11 := of_decide_eq_false hb11
            refine st_skip rfl rfl rfl ?_
            refine st_skip rfl rfl rfl ?_
            refine st_skip rfl rfl rfl ?_
            refine st_op (ev_pickF rfl rfl) rfl rfl rfl ?_
            refine st_op (ev_move rfl) rfl rfl rfl ?_
            refine st_skip rfl rfl rfl ?_
            refine st_skip rfl rfl rfl ?_
            refine st_skip rfl rfl rfl ?_
            refine st_skip rfl rfl rfl ?_
            refine st_op (ev_pickF rfl rfl) rfl rfl rfl ?_
            refine st_op (ev_assign rfl) rfl rfl rfl ?_
            try show aw _ _ _ _ _ _
            refine aw_ret ?_
            have hres : (Spec.mayF false 0 0 e_index e_term e_kind e_data) = false := by rw [Spec.mayE_eq, Bool.eq_iff_iff]; simp only [decide_eq_true_eq, Bool.false_eq_true, iff_false]; omega
            exact ⟨.bool false, rfl, by rw [hres], hx6⟩
        ·
          have hb10 := of_decide_eq_false hb10
          refine st_skip rfl rfl rfl ?_
          refine st_skip rfl rfl rfl ?_
          refine st_skip rfl rfl rfl ?_
          refine st_op (ev_pickF rfl rfl) rfl rfl rfl ?_
          refine st_op (ev_move rfl) rfl rfl rfl ?_
          refine st_skip rfl rfl rfl ?_
          refine st_skip rfl rfl rfl ?_
          refine st_skip rfl rfl rfl ?_
          refine st_op (ev_pickF rfl rfl) rfl rfl rfl ?_
          refine st_op (ev_move rfl) rfl rfl rfl ?_
          refine st_skip rfl rfl rfl ?_
          refine st_skip rfl rfl rfl ?_
          refine st_skip rfl rfl rfl ?_
          refine st_skip rfl rfl rfl ?_
          refine st_op (ev_pickF rfl rfl) rfl rfl rfl ?_
          refine st_op (ev_assign rfl) rfl rfl rfl ?_
          try show aw _ _ _ _ _ _
          refine aw_ret ?_
          have hres : (Spec.mayF false 0 0 e_index e_term e_kind e_data) = false := by rw [Spec.mayE_eq, Bool.eq_iff_iff]; simp only [decide_eq_true_eq, Bool.false_eq_true, iff_false]; omega
          exact ⟨.bool false, rfl, by rw [hres], hx6⟩
      ·
        have hb9 := of_decide_eq_false hb9
        refine st_skip rfl rfl rfl ?_
        refine st_skip rfl rfl rfl ?_
        refine st_skip rfl rfl rfl ?_
        refine st_op (ev_pickF rfl rfl) rfl rfl rfl ?_
        refine st_op (ev_move rfl) rfl rfl rfl ?_
        refine st_skip rfl rfl rfl ?_
        refine st_skip rfl rfl rfl ?_
        refine st_skip rfl rfl rfl ?_
        refine st_op (ev_pickF rfl rfl) rfl rfl rfl ?_
        refine st_op (ev_move rfl) rfl rfl rfl ?_
        refine st_skip rfl rfl rfl ?_
        refine st_skip rfl rfl rfl ?_
        refine st_skip rfl rfl rfl ?_
        refine st_op (ev_pickF rfl rfl) rfl rfl rfl ?_
        refine st_op (ev_move rfl) rfl rfl rfl ?_
        refine st_skip rfl rfl rfl ?_
        refine st_skip rfl rfl rfl ?_
        refine st_skip rfl rfl rfl ?_
        refine st_skip rfl rfl rfl ?_
        refine st_op (ev_pickF rfl rfl) rfl rfl rfl ?_
        refine st_op (ev_assign rfl) rfl rfl rfl ?_
        try show aw _ _ _ _ _ _
        refine aw_ret ?_
        have hres : (Spec.mayF false 0 0 e_index e_term e_kind e_data) = false := by rw [Spec.mayE_eq, Bool.eq_iff_iff]; simp only [decide_eq_true_eq, Bool.false_eq_true, iff_false]; omega
        exact ⟨.bool false, rfl, by rw [hres], hx6⟩
    ·
      have hb8 := of_decide_eq_false hb8
      refine st_skip rfl rfl rfl ?_
      refine st_skip rfl rfl rfl ?_
      refine st_skip rfl rfl rfl ?_
      refine st_op (ev_pickF rfl rfl) rfl rfl rfl ?_
      refine st_op (ev_move rfl) rfl rfl rfl ?_
      refine st_skip rfl rfl rfl ?_
      refine st_skip rfl rfl rfl ?_
      refine st_skip rfl rfl rfl ?_
      refine st_op (ev_pickF rfl rfl) rfl rfl rfl ?_
      refine st_op (ev_move rfl) rfl rfl rfl ?_
      refine st_skip rfl rfl rfl ?_
      refine st_skip rfl rfl rfl ?_
      refine st_skip rfl rfl rfl ?_
      refine st_op (ev_pickF rfl rfl) rfl rfl rfl ?_
      refine st_op (ev_move rfl) rfl rfl rfl ?_
      refine st_skip rfl rfl rfl ?_
      refine st_skip rfl rfl rfl ?_
      refine st_skip rfl rfl rfl ?_
      refine st_op (ev_pickF rfl rfl) rfl rfl rfl ?_
      refine st_op (ev_move rfl) rfl rfl rfl ?_
      refine st_skip rfl rfl rfl ?_
      refine st_skip rfl rfl rfl ?_
      refine st_skip rfl rfl rfl ?_
      refine st_skip rfl rfl rfl ?_
      refine st_op (ev_pickF rfl rfl) rfl rfl rfl ?_
      refine st_op (ev_assign rfl) rfl rfl rfl ?_
      try show aw _ _ _ _ _ _
      refine aw_ret ?_
      have hres : (Spec.mayF false 0 0 e_index e_term e_kind e_data) = false := by rw [Spec.mayE_eq, Bool.eq_iff_iff]; simp only [decide_eq_true_eq, Bool.false_eq_true, iff_false]; omega
      exact ⟨.bool false, rfl, by rw [hres], hx6⟩
  ·
    have hb7 := of_decide_eq_false hb7
    refine st_skip rfl rfl rfl ?_
    refine st_skip rfl rfl rfl ?_
    refine st_skip rfl rfl rfl ?_
    refine st_op (ev_pickF rfl rfl) rfl rfl rfl ?_
    refine st_op (ev_move rfl) rfl rfl rfl ?_
    refine st_skip rfl rfl rfl ?_
    refine st_skip rfl rfl rfl ?_
    refine st_skip rfl rfl rfl ?_
    refine st_op (ev_pickF rfl rfl) rfl rfl rfl ?_
    refine st_op (ev_move rfl) rfl rfl rfl ?_
    refine st_skip rfl rfl rfl ?_
    refine st_skip rfl rfl rfl ?_
    refine st_skip rfl rfl rfl ?_
    refine st_op (ev_pickF rfl rfl) rfl rfl rfl ?_
    refine st_op (ev_move rfl) rfl rfl rfl ?_
    refine st_skip rfl rfl rfl ?_
    refine st_skip rfl rfl rfl ?_
    refine st_skip rfl rfl rfl ?_
    refine st_op (ev_pickF rfl rfl) rfl rfl rfl ?_
    refine st_op (ev_move rfl) rfl rfl rfl ?_
    refine st_skip rfl rfl rfl ?_
    refine st_skip rfl rfl rfl ?_
    refine st_skip rfl rfl rfl ?_
    refine st_op (ev_pickF rfl rfl) rfl rfl rfl ?_
    refine st_op (ev_move rfl) rfl rfl rfl ?_
    refine st_skip rfl rfl rfl ?_
    refine st_skip rfl rfl rfl ?_
    refine st_skip rfl rfl rfl ?_
    refine st_skip rfl rfl rfl ?_
    refine st_op (ev_pickF rfl rfl) rfl rfl rfl ?_
    refine st_op (ev_assign rfl) rfl rfl rfl ?_
    try show aw _ _ _ _ _ _
    refine aw_ret ?_
    have hres : (Spec.mayF false 0 0 e_index e_term e_kind e_data) = false := by rw [Spec.mayE_eq, Bool.eq_iff_iff]; simp only [decide_eq_true_eq, Bool.false_eq_true, iff_false]; omega
    exact ⟨.bool false, rfl, by rw [hres], hx6⟩
theorem ref17_May_spec (H : Heap) (r_hard : Bool) (r_h_term : Int) (r_h_vote : Int) (r_e_index : Int) (r_e_term : Int) (r_e_kind : Int) (r_e_data : ByteArray) : ∃ v H', Spec Try.prog 13 [.agg #[.bool r_hard, .int .i64 r_h_term, .int .i64 r_h_vote, .int .i64 r_e_index, .int .i64 r_e_term, .int .i64 r_e_kind, .string r_e_data]] H v H' ∧ ((v = .bool (Spec.mayF r_hard r_h_term r_h_vote r_e_index r_e_term r_e_kind r_e_data)) ∧ (Ext H H')) := by
  refine spec_go1 E0_ok 29 (f := 13) Try.func13 rfl rfl rfl ?_
  refine aw_seq ?_
  refine aw_reg ?_
  obtain ⟨b1, H2, he3, b1e, H2n_, hB5, f4⟩ := mem_box (P := Try.prog) H (v := .agg #[.bool r_hard, .int .i64 r_h_term, .int .i64 r_h_vote, .int .i64 r_e_index, .int .i64 r_e_term, .int .i64 r_e_kind, .string r_e_data]) (cs := [.bool r_hard, .int .i64 r_h_term, .int .i64 r_h_vote, .int .i64 r_e_index, .int .i64 r_e_term, .int .i64 r_e_kind, .string r_e_data]) rfl rfl
  refine st_op (he3 _ _ _ _ _ _ _ _ _ rfl) rfl rfl rfl ?_
  have hx6 : Ext H H2 := Ext.new (by omega) H2n_ f4
  have H2n : H.next ≤ H2.next := hx6.1
  refine st_op (ev_assign rfl) rfl rfl rfl ?_
  try show aw _ _ _ _ _ _
  refine aw_seq ?_
  refine aw_seq ?_
  refine aw_reg ?_
  refine st_op (ev_fieldAddr rfl fa27_0 (o' := 0) rfl) rfl rfl rfl ?_
  refine st_op (ev_load rfl (lvar_one one4 hB5 rfl)) rfl rfl rfl ?_
  try show aw _ _ _ _ _ _
  by_cases hc7 : r_hard = true
  · refine aw_condT hc7 rfl ?_
    try show aw _ _ _ _ _ _
    refine aw_seq ?_
    refine aw_reg ?_
    refine st_op (ev_fieldAddr rfl fa27_1 (o' := 1) rfl) rfl rfl rfl ?_
    refine st_op (ev_load rfl (lvar_part (l := [.int .i64 r_h_term, .int .i64 r_h_vote]) many23 hB5 rfl rfl (by decide))) rfl rfl rfl ?_
    refine st_call rfl rfl rfl ent31 rfl rfl rfl ?_
    obtain ⟨_, H9, hs8, hs8v, hx10⟩ := ref17_MayHard_spec H2 r_h_term r_h_vote
    rw [hs8v] at hs8; clear hs8v
    refine ⟨_, H9, hs8, ?_⟩
    have H9n : H2.next ≤ H9.next := hx10.1
    refine st_op (ev_move rfl) rfl rfl rfl ?_
    refine st_bool 8 rfl (fun hb11 => ?_) (fun hb11 => ?_)
    ·
      have hb11m := Spec.may_says hb11
      refine st_op (ev_fieldAddr rfl fa27_2 (o' := 3) rfl) rfl rfl rfl ?_
      have h12 := Ext.blk hx10 (by omega) hB5
      refine st_op (ev_load rfl (lvar_part (l := [.int .i64 r_e_index, .int .i64 r_e_term, .int .i64 r_e_kind, .string r_e_data]) many25 h12 rfl rfl (by decide))) rfl rfl rfl ?_
      refine st_op (ev_build zero25 pl25 (parts := []) rfl (cs := [.int .i64 0, .int .i64 0, .int .i64 0, .string (⟨#[]⟩)]) rfl) rfl rfl rfl ?_
      refine st_call rfl rfl rfl ent32 rfl rfl rfl ?_
      obtain ⟨_, H14, hs13, hs13v, hx15⟩ := ref17_EqEntry_spec H9 r_e_index r_e_term r_e_kind r_e_data (0 : Int) (0 : Int) (0 : Int) (⟨#[]⟩ : ByteArray)
      rw [hs13v] at hs13; clear hs13v
      refine ⟨_, H14, hs13, ?_⟩
      have H14n : H9.next ≤ H14.next := hx15.1
      refine st_op (ev_pickT rfl rfl) rfl rfl rfl ?_
      refine st_op (ev_assign rfl) rfl rfl rfl ?_
      try show aw _ _ _ _ _ _
      refine aw_ret ?_
      have hx16 : Ext H H14 := (Ext.trans (Ext.trans hx6 hx10) hx15)
      have hres : (Spec.mayF r_hard r_h_term r_h_vote r_e_index r_e_term r_e_kind r_e_data) = (decide (r_e_index = (0 : Int) ∧ r_e_term = (0 : Int) ∧ r_e_kind = (0 : Int) ∧ r_e_data = (⟨#[]⟩ : ByteArray))) := by rw [Bool.eq_iff_iff]; cases r_hard <;> simp_all [Spec.mayH2_eq, Spec.mayE2_eq, Spec.mayH_eq, Spec.mayE_eq] <;> (try (intros; omega))
      exact ⟨.bool (decide (r_e_index = (0 : Int) ∧ r_e_term = (0 : Int) ∧ r_e_kind = (0 : Int) ∧ r_e_data = (⟨#[]⟩ : ByteArray))), rfl, by rw [hres], hx16⟩
    ·
      refine st_skip rfl rfl rfl ?_
      refine st_skip rfl rfl rfl ?_
      refine st_skip rfl rfl rfl ?_
      refine st_skip rfl rfl rfl ?_
      refine st_op (ev_pickF rfl rfl) rfl rfl rfl ?_
      refine st_op (ev_assign rfl) rfl rfl rfl ?_
      try show aw _ _ _ _ _ _
      refine aw_ret ?_
      have hx17 : Ext H H9 := (Ext.trans hx6 hx10)
      have hres : (Spec.mayF r_hard r_h_term r_h_vote r_e_index r_e_term r_e_kind r_e_data) = false := by rw [Bool.eq_iff_iff]; cases r_hard <;> simp_all [Spec.mayH2_eq, Spec.mayE2_eq, Spec.mayH_eq, Spec.mayE_eq] <;> (try (intros; omega))
      exact ⟨.bool false, rfl, by rw [hres], hx17⟩
  · rw [Bool.not_eq_true] at hc7; refine aw_condF hc7 rfl ?_
    try show aw _ _ _ _ _ _
    refine aw_skip ?_
    try show aw _ _ _ _ _ _
    refine aw_seq ?_
    refine aw_reg ?_
    refine st_op (ev_fieldAddr rfl fa27_1 (o' := 1) rfl) rfl rfl rfl ?_
    refine st_op (ev_fieldAddr rfl fa23_0 (o' := 1) rfl) rfl rfl rfl ?_
    refine st_op (ev_load rfl (lvar_one one2 hB5 rfl)) rfl rfl rfl ?_
    refine st_op (ev_int rfl rfl rfl) rfl rfl rfl ?_
    refine st_op (ev_move rfl) rfl rfl rfl ?_
    refine st_bool 18 rfl (fun hb18 => ?_) (fun hb18 => ?_)
    ·
      have hb18 := eq_of_beq hb18
      refine st_op (ev_fieldAddr rfl fa27_1 (o' := 1) rfl) rfl rfl rfl ?_
      refine st_op (ev_fieldAddr rfl fa23_1 (o' := 2) rfl) rfl rfl rfl ?_
      refine st_op (ev_load rfl (lvar_one one3 hB5 rfl)) rfl rfl rfl ?_
      refine st_op (ev_int rfl rfl rfl) rfl rfl rfl ?_
      refine st_op (ev_pickT rfl rfl) rfl rfl rfl ?_
      refine st_op (ev_move rfl) rfl rfl rfl ?_
      refine st_bool 24 rfl (fun hb19 => ?_) (fun hb19 => ?_)
      ·
        have hb19 := eq_of_beq hb19
        refine st_op (ev_fieldAddr rfl fa27_2 (o' := 3) rfl) rfl rfl rfl ?_
        refine st_op (ev_load rfl (lvar_part (l := [.int .i64 r_e_index, .int .i64 r_e_term, .int .i64 r_e_kind, .string r_e_data]) many25 hB5 rfl rfl (by decide))) rfl rfl rfl ?_
        refine st_call rfl rfl rfl ent33 rfl rfl rfl ?_
        obtain ⟨_, H21, hs20, hs20v, hx22⟩ := ref17_MayEntry_spec H2 r_e_index r_e_term r_e_kind r_e_data
        rw [hs20v] at hs20; clear hs20v
        refine ⟨_, H21, hs20, ?_⟩
        have H21n : H2.next ≤ H21.next := hx22.1
        refine st_op (ev_pickT rfl rfl) rfl rfl rfl ?_
        refine st_op (ev_assign rfl) rfl rfl rfl ?_
        try show aw _ _ _ _ _ _
        refine aw_ret ?_
        have hx23 : Ext H H21 := (Ext.trans hx6 hx22)
        have hres : (Spec.mayF r_hard r_h_term r_h_vote r_e_index r_e_term r_e_kind r_e_data) = (Spec.mayF false 0 0 r_e_index r_e_term r_e_kind r_e_data) := by rw [Bool.eq_iff_iff]; cases r_hard <;> simp_all [Spec.mayH2_eq, Spec.mayE2_eq, Spec.mayH_eq, Spec.mayE_eq] <;> (try (intros; omega))
        exact ⟨.bool (Spec.mayF false 0 0 r_e_index r_e_term r_e_kind r_e_data), rfl, by rw [hres], hx23⟩
      ·
        have hb19 := ne_of_beq_false hb19
        refine st_skip rfl rfl rfl ?_
        refine st_skip rfl rfl rfl ?_
        refine st_skip rfl rfl rfl ?_
        refine st_op (ev_pickF rfl rfl) rfl rfl rfl ?_
        refine st_op (ev_assign rfl) rfl rfl rfl ?_
        try show aw _ _ _ _ _ _
        refine aw_ret ?_
        have hres : (Spec.mayF r_hard r_h_term r_h_vote r_e_index r_e_term r_e_kind r_e_data) = false := by rw [Bool.eq_iff_iff]; cases r_hard <;> simp_all [Spec.mayH2_eq, Spec.mayE2_eq, Spec.mayH_eq, Spec.mayE_eq] <;> (try (intros; omega))
        exact ⟨.bool false, rfl, by rw [hres], hx6⟩
    ·
      have hb18 := ne_of_beq_false hb18
      refine st_skip rfl rfl rfl ?_
      refine st_skip rfl rfl rfl ?_
      refine st_skip rfl rfl rfl ?_
      refine st_skip rfl rfl rfl ?_
      refine st_op (ev_pickF rfl rfl) rfl rfl rfl ?_
      refine st_op (ev_move rfl) rfl rfl rfl ?_
      refine st_skip rfl rfl rfl ?_
      refine st_skip rfl rfl rfl ?_
      refine st_skip rfl rfl rfl ?_
      refine st_op (ev_pickF rfl rfl) rfl rfl rfl ?_
      refine st_op (ev_assign rfl) rfl rfl rfl ?_
      try show aw _ _ _ _ _ _
      refine aw_ret ?_
      have hres : (Spec.mayF r_hard r_h_term r_h_vote r_e_index r_e_term r_e_kind r_e_data) = false := by rw [Bool.eq_iff_iff]; cases r_hard <;> simp_all [Spec.mayH2_eq, Spec.mayE2_eq, Spec.mayH_eq, Spec.mayE_eq] <;> (try (intros; omega))
      exact ⟨.bool false, rfl, by rw [hres], hx6⟩
theorem ref1_PutText_spec (H : Heap) (s : ByteArray) (hs : s.size ≤ 137438953472) : ∃ v H', Spec Try.prog 37 [.string s] H v H' ∧ (∃ rA0 rc0, (v = .slice rA0 ((Spec.enc (Spec.zig (s.size : Int)) ++ Spec.bytesOf s).length) rc0) ∧ (My H H' rA0 rc0 1 ((Spec.enc (Spec.zig (s.size : Int)) ++ Spec.bytesOf s).map u8c)) ∧ ((Spec.enc (Spec.zig (s.size : Int))).length ≤ 10) ∧ (Ext H H')) := by
  refine spec_go1 E0_ok 8 (f := 37) Try.func37 rfl rfl rfl ?_
  refine aw_seq ?_
  refine aw_reg ?_
  refine st_op (ev_assign rfl) rfl rfl rfl ?_
  try show aw _ _ _ _ _ _
  refine aw_seq ?_
  refine aw_reg ?_
  refine st_op (ev_move rfl) rfl rfl rfl ?_
  refine st_op (ev_lenStr rfl Try.underlying9) rfl rfl rfl ?_
  refine st_call rfl rfl rfl ent36 rfl rfl rfl ?_
  obtain ⟨_, H2, hs1, A4, c5, hs1v, hm6, hq7, hx3⟩ := ref1_Put_spec H ((s).size : Int) ⟨by omega, by omega⟩
  rw [hs1v] at hs1; clear hs1v
  refine ⟨_, H2, hs1, ?_⟩
  have H2n : H.next ≤ H2.next := hx3.1
  refine st_op (ev_move rfl) rfl rfl rfl ?_
  obtain ⟨A8, c9, H10, W11, he12, hm13, hf14⟩ := mem_append (f := u8c) (old := (Spec.enc (Spec.zig ((s).size : Int)))) (new := (Spec.bytesOf s)) (m := (Spec.enc (Spec.zig ((s).size : Int))).length) (mx := (Spec.bytesOf s).length) (c := c5) (by first | rfl | simp) (by first | rfl | simp) eok30 (by decide) hm6 hm6 (by omega) (str_src s) (by simp [lenA, Spec.bytesOf_length]) u8c_len u8c_one (by first | omega | (simp only [List.length_append, List.length_cons, List.length_nil, List.length_map, List.length_set, List.length_replicate, Spec.bytesOf_length]; omega) | (simp; omega)) (by first | omega | (simp only [List.length_append, List.length_cons, List.length_nil, List.length_map, List.length_set, List.length_replicate, Spec.bytesOf_length]; omega) | (simp; omega))
  refine st_op (he12 _ _ _ _ _ _ _ _ _ _ rfl rfl isrow9) rfl rfl rfl ?_
  have H10n : H2.next ≤ H10.next := hf14.1
  refine st_op (ev_assign rfl) rfl rfl rfl ?_
  try show aw _ _ _ _ _ _
  refine aw_ret ?_
  have hx15 : Ext H H10 := (Ext.then hx3 hf14 (fun q hq e => by omega))
  have hres : (Spec.enc (Spec.zig (s.size : Int)) ++ Spec.bytesOf s) = ((Spec.enc (Spec.zig ((s).size : Int))) ++ (Spec.bytesOf s)) := by rfl
  exact ⟨.slice A8 (((Spec.enc (Spec.zig ((s).size : Int))) ++ (Spec.bytesOf s)).length) c9, rfl, A8, c9, by rw [hres]; first | done | rfl | simp, (by rw [hres]; exact hm13), (by exact Spec.zig_i64 ⟨by omega, by omega⟩), hx15⟩
theorem ref17_Encode_spec (H : Heap) (r_hard : Bool) (r_h_term : Int) (r_h_vote : Int) (r_e_index : Int) (r_e_term : Int) (r_e_kind : Int) (r_e_data : ByteArray) : ∃ v H', Spec Try.prog 15 [.agg #[.bool r_hard, .int .i64 r_h_term, .int .i64 r_h_vote, .int .i64 r_e_index, .int .i64 r_e_term, .int .i64 r_e_kind, .string r_e_data]] H v H' ∧ (∃ rA0 rc0, (v = .slice rA0 ((Spec.encodeF r_hard r_h_term r_h_vote r_e_index r_e_term r_e_kind r_e_data).length) rc0) ∧ (My H H' rA0 rc0 1 ((Spec.encodeF r_hard r_h_term r_h_vote r_e_index r_e_term r_e_kind r_e_data).map u8c)) ∧ (((Spec.encodeF r_hard r_h_term r_h_vote r_e_index r_e_term r_e_kind r_e_data)).length ≤ 2550) ∧ (Ext H H')) := by
  refine spec_go1 E0_ok 42 (f := 15) Try.func15 rfl rfl rfl ?_
  refine aw_seq ?_
  refine aw_reg ?_
  obtain ⟨b1, H2, he3, b1e, H2n_, hB5, f4⟩ := mem_box (P := Try.prog) H (v := .agg #[.bool r_hard, .int .i64 r_h_term, .int .i64 r_h_vote, .int .i64 r_e_index, .int .i64 r_e_term, .int .i64 r_e_kind, .string r_e_data]) (cs := [.bool r_hard, .int .i64 r_h_term, .int .i64 r_h_vote, .int .i64 r_e_index, .int .i64 r_e_term, .int .i64 r_e_kind, .string r_e_data]) rfl rfl
  refine st_op (he3 _ _ _ _ _ _ _ _ _ rfl) rfl rfl rfl ?_
  have hx6 : Ext H H2 := Ext.new (by omega) H2n_ f4
  have H2n : H.next ≤ H2.next := hx6.1
  refine st_op (ev_assign rfl) rfl rfl rfl ?_
  try show aw _ _ _ _ _ _
  refine aw_seq ?_
  refine aw_seq ?_
  refine aw_reg ?_
  refine st_op (ev_load rfl (lvar_part (l := [.bool r_hard, .int .i64 r_h_term, .int .i64 r_h_vote, .int .i64 r_e_index, .int .i64 r_e_term, .int .i64 r_e_kind, .string r_e_data]) many27 hB5 rfl rfl (by decide))) rfl rfl rfl ?_
  refine st_call rfl rfl rfl ent13 rfl rfl rfl ?_
  obtain ⟨_, H8, hs7, hs7v, hx9⟩ := ref17_May_spec H2 r_hard r_h_term r_h_vote r_e_index r_e_term r_e_kind r_e_data
  rw [hs7v] at hs7; clear hs7v
  refine ⟨_, H8, hs7, ?_⟩
  have H8n : H2.next ≤ H8.next := hx9.1
  refine st_op (ev_not rfl) rfl rfl rfl ?_
  try show aw _ _ _ _ _ _
  by_cases hc10 : (!(Spec.mayF r_hard r_h_term r_h_vote r_e_index r_e_term r_e_kind r_e_data)) = true
  · refine aw_condT hc10 rfl ?_
    try show aw _ _ _ _ _ _
    replace hc10 : (Spec.mayF r_hard r_h_term r_h_vote r_e_index r_e_term r_e_kind r_e_data) = false := by rw [Bool.not_eq_true'] at hc10; exact hc10
    refine aw_seq ?_
    refine aw_reg ?_
    refine st_op (ev_assign rfl) rfl rfl rfl ?_
    try show aw _ _ _ _ _ _
    refine aw_ret ?_
    have hm11 : My H8 H8 none 0 1 (([] : List Int).map u8c) := .nil
    have hx12 : Ext H H8 := (Ext.trans hx6 hx9)
    have hres : (Spec.encodeF r_hard r_h_term r_h_vote r_e_index r_e_term r_e_kind r_e_data) = ([] : List Int) := by unfold Spec.encodeF; rw [if_neg (by simp_all)]
    exact ⟨.slice none 0 0, rfl, none, 0, by rw [hres]; first | done | rfl | simp, (by rw [hres]; exact (My.older hm11 (by omega))), (by exact Spec.encodeF_len _ _ _ _ _ _ _), hx12⟩
  · rw [Bool.not_eq_true] at hc10; refine aw_condF hc10 rfl ?_
    try show aw _ _ _ _ _ _
    replace hc10 : (Spec.mayF r_hard r_h_term r_h_vote r_e_index r_e_term r_e_kind r_e_data) = true := by rw [Bool.not_eq_false'] at hc10; exact hc10
    have hc10m := Spec.may_says hc10
    refine aw_skip ?_
    try show aw _ _ _ _ _ _
    refine aw_seq ?_
    refine aw_seq ?_
    refine aw_reg ?_
    refine st_op (ev_fieldAddr rfl fa27_0 (o' := 0) rfl) rfl rfl rfl ?_
    have h13 := Ext.blk hx9 (by omega) hB5
    refine st_op (ev_load rfl (lvar_one one4 h13 rfl)) rfl rfl rfl ?_
    try show aw _ _ _ _ _ _
    by_cases hc14 : r_hard = true
    · refine aw_condT hc14 rfl ?_
      try show aw _ _ _ _ _ _
      refine aw_seq ?_
      refine aw_marks (fun b => b < H8.next) [(false, false), (false, false), (false, false), (false, true), (false, false), (false, false), (true, false), (false, false), (false, false), (false, false), (false, false)] mixed (by kernel_rfl) (by kernel_rfl) ?_
      refine sm_op (ev_fieldAddr rfl fa27_1 (o' := 1) rfl) rfl rfl rfl ?_
      refine sm_op (ev_fieldAddr rfl fa23_0 (o' := 1) rfl) rfl rfl rfl ?_
      refine sm_op (ev_load rfl (lvar_one one2 h13 rfl)) rfl rfl rfl ?_
      refine sm_call rfl rfl rfl ent36 rfl rfl rfl ?_
      obtain ⟨_, H16, hs15, A18, c19, hs15v, hm20, hq21, hx17⟩ := ref1_Put_spec H8 r_h_term ⟨by omega, by omega⟩
      rw [hs15v] at hs15; clear hs15v
      refine ⟨_, H16, hs15, (fun _ b hb => hx17.2 b (by omega)), ?_⟩
      have H16n : H8.next ≤ H16.next := hx17.1
      refine sm_op (ev_fieldAddr rfl fa27_1 (o' := 1) rfl) rfl rfl rfl ?_
      refine sm_op (ev_fieldAddr rfl fa23_1 (o' := 2) rfl) rfl rfl rfl ?_
      have h22 := Ext.blk hx17 (by omega) h13
      refine sm_read (ev_load rfl (lvar_one one3 h22 rfl)) rfl rfl rfl (fun b hb => by cases hb; dsimp only; omega) ?_
      refine sm_call rfl rfl rfl ent36 rfl rfl rfl ?_
      obtain ⟨_, H24, hs23, A26, c27, hs23v, hm28, hq29, hx25⟩ := ref1_Put_spec H16 r_h_vote ⟨by omega, by omega⟩
      rw [hs23v] at hs23; clear hs23v
      refine ⟨_, H24, hs23, (fun _ b hb => hx25.2 b (by omega)), ?_⟩
      have H24n : H16.next ≤ H24.next := hx25.1
      have h30 := My.ext hm20 hx25
      obtain ⟨A31, c32, H33, W34, he35, hm36, hf37⟩ := mem_append (f := u8c) (old := (Spec.enc (Spec.zig r_h_term))) (new := (Spec.enc (Spec.zig r_h_vote))) (m := (Spec.enc (Spec.zig r_h_term)).length) (mx := (Spec.enc (Spec.zig r_h_vote)).length) (c := c19) (by first | rfl | simp) (by first | rfl | simp) eok30 (by decide) hm20 h30 (by omega) (((My.row hm28)).srcF (by decide) (by first | rfl | simp)) rfl u8c_len u8c_one (by first | omega | (simp only [List.length_append, List.length_cons, List.length_nil, List.length_map, List.length_set, List.length_replicate, Spec.bytesOf_length]; omega) | (simp; omega)) (by first | omega | (simp only [List.length_append, List.length_cons, List.length_nil, List.length_map, List.length_set, List.length_replicate, Spec.bytesOf_length]; omega) | (simp; omega))
      refine sm_op (he35 _ _ _ _ _ _ _ _ _ _ rfl rfl isrow30) rfl rfl rfl ?_
      have H33n : H24.next ≤ H33.next := hf37.1
      refine sm_call rfl rfl rfl ent35 rfl rfl rfl ?_
      obtain ⟨_, H39, hs38, A41, c42, hs38v, hm43, hq44, hq45, hx40⟩ := ref1_Seal_spec H33 1 (by decide) A31 ((Spec.enc (Spec.zig r_h_term)) ++ (Spec.enc (Spec.zig r_h_vote))) c32 (My.row hm36) (My.capF hm36 (by first | omega | (simp only [List.length_append, List.length_cons, List.length_nil, List.length_map, List.length_set, List.length_replicate, Spec.bytesOf_length]; omega) | (simp; omega))) (by first | omega | (simp only [List.length_append, List.length_cons, List.length_nil, List.length_map, List.length_set, List.length_replicate, Spec.bytesOf_length]; omega) | (simp; omega)) (by first | assumption | exact Spec.Bytes.nil | exact Spec.bytes_of _ | (repeat' first | assumption | exact Spec.Bytes.nil | exact Spec.bytes_of _ | exact Spec.enc_bytes _ | exact Spec.four_bytes _ | exact Spec.sealF_bytes (by assumption) | apply Spec.Bytes.append | apply Spec.Bytes.cons (by omega) | apply Spec.Bytes.take | apply Spec.Bytes.drop))
      rw [hs38v] at hs38; clear hs38v
      refine ⟨_, H39, hs38, (fun _ b hb => hx40.2 b (by omega)), ?_⟩
      have H39n : H33.next ≤ H39.next := hx40.1
      refine sm_op (ev_assign rfl) rfl rfl rfl ?_
      try show aw _ _ _ _ _ _
      refine aw_ret ?_
      have hx46 : Ext H H39 := (Ext.trans (Ext.then (Ext.trans (Ext.trans (Ext.trans hx6 hx9) hx17) hx25) hf37 (fun q hq e => by omega)) hx40)
      have hres : (Spec.encodeF r_hard r_h_term r_h_vote r_e_index r_e_term r_e_kind r_e_data) = (Spec.sealF (1 : Int) ((Spec.enc (Spec.zig r_h_term)) ++ (Spec.enc (Spec.zig r_h_vote)))) := by first | exact (Spec.enc_hard (by assumption) (by assumption)).trans (by simp only [List.append_assoc, List.nil_append]) | exact (Spec.enc_entry (by assumption) (by assumption)).trans (by simp only [List.append_assoc, List.nil_append])
      exact ⟨.slice A41 ((Spec.sealF (1 : Int) ((Spec.enc (Spec.zig r_h_term)) ++ (Spec.enc (Spec.zig r_h_vote)))).length) c42, rfl, A41, c42, by rw [hres]; first | done | rfl | simp, (by rw [hres]; exact (My.older hm43 (by omega))), (by exact Spec.encodeF_len _ _ _ _ _ _ _), hx46⟩
    · rw [Bool.not_eq_true] at hc14; refine aw_condF hc14 rfl ?_
      try show aw _ _ _ _ _ _
      refine aw_skip ?_
      try show aw _ _ _ _ _ _
      refine aw_seq ?_
      refine aw_reg ?_
      refine st_op (ev_fieldAddr rfl fa27_2 (o' := 3) rfl) rfl rfl rfl ?_
      refine st_op (ev_fieldAddr rfl fa25_0 (o' := 3) rfl) rfl rfl rfl ?_
      refine st_op (ev_load rfl (lvar_one one2 h13 rfl)) rfl rfl rfl ?_
      refine st_call rfl rfl rfl ent36 rfl rfl rfl ?_
      obtain ⟨_, H48, hs47, A50, c51, hs47v, hm52, hq53, hx49⟩ := ref1_Put_spec H8 r_e_index ⟨by omega, by omega⟩
      rw [hs47v] at hs47; clear hs47v
      refine ⟨_, H48, hs47, ?_⟩
      have H48n : H8.next ≤ H48.next := hx49.1
      refine st_op (ev_assign rfl) rfl rfl rfl ?_
      try show aw _ _ _ _ _ _
      refine aw_seq ?_
      refine aw_reg ?_
      refine st_op (ev_move rfl) rfl rfl rfl ?_
      refine st_op (ev_fieldAddr rfl fa27_2 (o' := 3) rfl) rfl rfl rfl ?_
      refine st_op (ev_fieldAddr rfl fa25_1 (o' := 4) rfl) rfl rfl rfl ?_
      have h54 := Ext.blk hx49 (by omega) h13
      refine st_op (ev_load rfl (lvar_one one2 h54 rfl)) rfl rfl rfl ?_
      refine st_call rfl rfl rfl ent36 rfl rfl rfl ?_
      obtain ⟨_, H56, hs55, A58, c59, hs55v, hm60, hq61, hx57⟩ := ref1_Put_spec H48 r_e_term ⟨by omega, by omega⟩
      rw [hs55v] at hs55; clear hs55v
      refine ⟨_, H56, hs55, ?_⟩
      have H56n : H48.next ≤ H56.next := hx57.1
      have h62 := My.ext hm52 hx57
      obtain ⟨A63, c64, H65, W66, he67, hm68, hf69⟩ := mem_append (f := u8c) (old := (Spec.enc (Spec.zig r_e_index))) (new := (Spec.enc (Spec.zig r_e_term))) (m := (Spec.enc (Spec.zig r_e_index)).length) (mx := (Spec.enc (Spec.zig r_e_term)).length) (c := c51) (by first | rfl | simp) (by first | rfl | simp) eok30 (by decide) hm52 h62 (by omega) (((My.row hm60)).srcF (by decide) (by first | rfl | simp)) rfl u8c_len u8c_one (by first | omega | (simp only [List.length_append, List.length_cons, List.length_nil, List.length_map, List.length_set, List.length_replicate, Spec.bytesOf_length]; omega) | (simp; omega)) (by first | omega | (simp only [List.length_append, List.length_cons, List.length_nil, List.length_map, List.length_set, List.length_replicate, Spec.bytesOf_length]; omega) | (simp; omega))
      refine st_op (he67 _ _ _ _ _ _ _ _ _ _ rfl rfl isrow30) rfl rfl rfl ?_
      have H65n : H56.next ≤ H65.next := hf69.1
      refine st_op (ev_assign rfl) rfl rfl rfl ?_
      try show aw _ _ _ _ _ _
      refine aw_seq ?_
      refine aw_reg ?_
      refine st_op (ev_move rfl) rfl rfl rfl ?_
      refine st_op (ev_fieldAddr rfl fa27_2 (o' := 3) rfl) rfl rfl rfl ?_
      refine st_op (ev_fieldAddr rfl fa25_2 (o' := 5) rfl) rfl rfl rfl ?_
      have hx71 : Ext H8 H65 := (Ext.then (Ext.trans hx49 hx57) hf69 (fun q hq e => by omega))
      have h70 := Ext.blk hx71 (by omega) h13
      refine st_op (ev_load rfl (lvar_one one3 h70 rfl)) rfl rfl rfl ?_
      refine st_call rfl rfl rfl ent36 rfl rfl rfl ?_
      obtain ⟨_, H73, hs72, A75, c76, hs72v, hm77, hq78, hx74⟩ := ref1_Put_spec H65 r_e_kind ⟨by omega, by omega⟩
      rw [hs72v] at hs72; clear hs72v
      refine ⟨_, H73, hs72, ?_⟩
      have H73n : H65.next ≤ H73.next := hx74.1
      have h79 := My.ext hm68 hx74
      obtain ⟨A80, c81, H82, W83, he84, hm85, hf86⟩ := mem_append (f := u8c) (old := ((Spec.enc (Spec.zig r_e_index)) ++ (Spec.enc (Spec.zig r_e_term)))) (new := (Spec.enc (Spec.zig r_e_kind))) (m := ((Spec.enc (Spec.zig r_e_index)) ++ (Spec.enc (Spec.zig r_e_term))).length) (mx := (Spec.enc (Spec.zig r_e_kind)).length) (c := c64) (by first | rfl | simp) (by first | rfl | simp) eok30 (by decide) hm68 h79 (by omega) (((My.row hm77)).srcF (by decide) (by first | rfl | simp)) rfl u8c_len u8c_one (by first | omega | (simp only [List.length_append, List.length_cons, List.length_nil, List.length_map, List.length_set, List.length_replicate, Spec.bytesOf_length]; omega) | (simp; omega)) (by first | omega | (simp only [List.length_append, List.length_cons, List.length_nil, List.length_map, List.length_set, List.length_replicate, Spec.bytesOf_length]; omega) | (simp; omega))
      refine st_op (he84 _ _ _ _ _ _ _ _ _ _ rfl rfl isrow30) rfl rfl rfl ?_
      have H82n : H73.next ≤ H82.next := hf86.1
      refine st_op (ev_assign rfl) rfl rfl rfl ?_
      try show aw _ _ _ _ _ _
      refine aw_seq ?_
      refine aw_reg ?_
      refine st_op (ev_move rfl) rfl rfl rfl ?_
      refine st_op (ev_fieldAddr rfl fa27_2 (o' := 3) rfl) rfl rfl rfl ?_
      refine st_op (ev_fieldAddr rfl fa25_3 (o' := 6) rfl) rfl rfl rfl ?_
      have hx88 : Ext H8 H82 := (Ext.then (Ext.trans hx71 hx74) hf86 (fun q hq e => by omega))
      have h87 := Ext.blk hx88 (by omega) h13
      refine st_op (ev_load rfl (lvar_one one9 h87 rfl)) rfl rfl rfl ?_
      refine st_call rfl rfl rfl ent37 rfl rfl rfl ?_
      obtain ⟨_, H90, hs89, A92, c93, hs89v, hm94, hq95, hx91⟩ := ref1_PutText_spec H82 r_e_data (by omega)
      rw [hs89v] at hs89; clear hs89v
      refine ⟨_, H90, hs89, ?_⟩
      have H90n : H82.next ≤ H90.next := hx91.1
      have h96 := My.ext hm85 hx91
      obtain ⟨A97, c98, H99, W100, he101, hm102, hf103⟩ := mem_append (f := u8c) (old := (((Spec.enc (Spec.zig r_e_index)) ++ (Spec.enc (Spec.zig r_e_term))) ++ (Spec.enc (Spec.zig r_e_kind)))) (new := (Spec.enc (Spec.zig (r_e_data.size : Int)) ++ Spec.bytesOf r_e_data)) (m := (((Spec.enc (Spec.zig r_e_index)) ++ (Spec.enc (Spec.zig r_e_term))) ++ (Spec.enc (Spec.zig r_e_kind))).length) (mx := (Spec.enc (Spec.zig (r_e_data.size : Int)) ++ Spec.bytesOf r_e_data).length) (c := c81) (by first | rfl | simp) (by first | rfl | simp) eok30 (by decide) hm85 h96 (by omega) (((My.row hm94)).srcF (by decide) (by first | rfl | simp)) rfl u8c_len u8c_one (by first | omega | (simp only [List.length_append, List.length_cons, List.length_nil, List.length_map, List.length_set, List.length_replicate, Spec.bytesOf_length]; omega) | (simp; omega)) (by first | omega | (simp only [List.length_append, List.length_cons, List.length_nil, List.length_map, List.length_set, List.length_replicate, Spec.bytesOf_length]; omega) | (simp; omega))
      refine st_op (he101 _ _ _ _ _ _ _ _ _ _ rfl rfl isrow30) rfl rfl rfl ?_
      have H99n : H90.next ≤ H99.next := hf103.1
      refine st_call rfl rfl rfl ent35 rfl rfl rfl ?_
      obtain ⟨_, H105, hs104, A107, c108, hs104v, hm109, hq110, hq111, hx106⟩ := ref1_Seal_spec H99 2 (by decide) A97 ((((Spec.enc (Spec.zig r_e_index)) ++ (Spec.enc (Spec.zig r_e_term))) ++ (Spec.enc (Spec.zig r_e_kind))) ++ (Spec.enc (Spec.zig (r_e_data.size : Int)) ++ Spec.bytesOf r_e_data)) c98 (My.row hm102) (My.capF hm102 (by first | omega | (simp only [List.length_append, List.length_cons, List.length_nil, List.length_map, List.length_set, List.length_replicate, Spec.bytesOf_length]; omega) | (simp; omega))) (by first | omega | (simp only [List.length_append, List.length_cons, List.length_nil, List.length_map, List.length_set, List.length_replicate, Spec.bytesOf_length]; omega) | (simp; omega)) (by first | assumption | exact Spec.Bytes.nil | exact Spec.bytes_of _ | (repeat' first | assumption | exact Spec.Bytes.nil | exact Spec.bytes_of _ | exact Spec.enc_bytes _ | exact Spec.four_bytes _ | exact Spec.sealF_bytes (by assumption) | apply Spec.Bytes.append | apply Spec.Bytes.cons (by omega) | apply Spec.Bytes.take | apply Spec.Bytes.drop))
      rw [hs104v] at hs104; clear hs104v
      refine ⟨_, H105, hs104, ?_⟩
      have H105n : H99.next ≤ H105.next := hx106.1
      refine st_op (ev_assign rfl) rfl rfl rfl ?_
      try show aw _ _ _ _ _ _
      refine aw_ret ?_
      have hx112 : Ext H H105 := (Ext.trans (Ext.then (Ext.trans (Ext.then (Ext.trans (Ext.then (Ext.trans (Ext.trans (Ext.trans hx6 hx9) hx49) hx57) hf69 (fun q hq e => by omega)) hx74) hf86 (fun q hq e => by omega)) hx91) hf103 (fun q hq e => by omega)) hx106)
      have hres : (Spec.encodeF r_hard r_h_term r_h_vote r_e_index r_e_term r_e_kind r_e_data) = (Spec.sealF (2 : Int) ((((Spec.enc (Spec.zig r_e_index)) ++ (Spec.enc (Spec.zig r_e_term))) ++ (Spec.enc (Spec.zig r_e_kind))) ++ (Spec.enc (Spec.zig (r_e_data.size : Int)) ++ Spec.bytesOf r_e_data))) := by first | exact (Spec.enc_hard (by assumption) (by assumption)).trans (by simp only [List.append_assoc, List.nil_append]) | exact (Spec.enc_entry (by assumption) (by assumption)).trans (by simp only [List.append_assoc, List.nil_append])
      exact ⟨.slice A107 ((Spec.sealF (2 : Int) ((((Spec.enc (Spec.zig r_e_index)) ++ (Spec.enc (Spec.zig r_e_term))) ++ (Spec.enc (Spec.zig r_e_kind))) ++ (Spec.enc (Spec.zig (r_e_data.size : Int)) ++ Spec.bytesOf r_e_data))).length) c108, rfl, A107, c108, by rw [hres]; first | done | rfl | simp, (by rw [hres]; exact (My.older hm109 (by omega))), (by exact Spec.encodeF_len _ _ _ _ _ _ _), hx112⟩
theorem ref1_GetText_spec (H : Heap) (bA : Option Addr) (b : List Int) (bc : Nat) (hb : Row H bA bc 1 (b.map u8c)) (cb : b.length ≤ bc) (lb : b.length ≤ 1099511627776) (bb : Spec.Bytes b) : ∃ v H', Spec Try.prog 44 [.slice bA b.length bc] H v H' ∧ ((v = .tuple #[.string ((Spec.getText b).1), .int .i64 ((Spec.getText b).2.1), .int .i64 ((Spec.getText b).2.2)]) ∧ ((Spec.getText b).2.2 = 0 → (Spec.getText b).1.size ≤ 1048576 ∧ 1 ≤ (Spec.getText b).2.1 ∧ (Spec.getText b).2.1 ≤ b.length) ∧ (0 ≤ (Spec.getText b).2.2 ∧ (Spec.getText b).2.2 ≤ 2) ∧ ((Spec.getText b).2.2 ≠ 0 → (Spec.getText b).2.1 = 0) ∧ ((Spec.getText b).1.size ≤ 1048576) ∧ (0 ≤ (Spec.getText b).2.1 ∧ (Spec.getText b).2.1 ≤ b.length) ∧ (Ext H H')) := by
  refine spec_go1 E0_ok 39 (f := 44) Try.func44 rfl rfl rfl ?_
  refine aw_seq ?_
  refine aw_reg ?_
  refine st_op (ev_assign rfl) rfl rfl rfl ?_
  refine st_op (ev_assign rfl) rfl rfl rfl ?_
  refine st_op (ev_assign rfl) rfl rfl rfl ?_
  try show aw _ _ _ _ _ _
  refine aw_seq ?_
  refine aw_reg ?_
  refine st_op (ev_move rfl) rfl rfl rfl ?_
  refine st_call rfl rfl rfl ent52 rfl rfl rfl ?_
  obtain ⟨_, H2, hs1, hs1v, hq4, hq5, hq6, hx3⟩ := ref1_Get_spec H bA b bc hb cb (by first | omega | (simp only [List.length_append, List.length_cons, List.length_nil, List.length_map, List.length_set, List.length_replicate, Spec.bytesOf_length]; omega) | (simp; omega)) (by first | assumption | exact Spec.Bytes.nil | exact Spec.bytes_of _ | (repeat' first | assumption | exact Spec.Bytes.nil | exact Spec.bytes_of _ | exact Spec.enc_bytes _ | exact Spec.four_bytes _ | exact Spec.sealF_bytes (by assumption) | apply Spec.Bytes.append | apply Spec.Bytes.cons (by omega) | apply Spec.Bytes.take | apply Spec.Bytes.drop))
  rw [hs1v] at hs1; clear hs1v
  generalize hR8 : (Spec.numGet 0 0 b) = r7 at hs1 hq4 hq5 hq6
  obtain ⟨z9, z10, z11⟩ := r7
  dsimp only at hs1 hq4 hq5 hq6
  refine ⟨_, H2, hs1, ?_⟩
  have H2n : H.next ≤ H2.next := hx3.1
  refine st_op (ev_move rfl) rfl rfl rfl ?_
  refine st_op (ev_extract rfl rfl) rfl rfl rfl ?_
  refine st_op (ev_extract rfl rfl) rfl rfl rfl ?_
  refine st_op (ev_extract rfl rfl) rfl rfl rfl ?_
  refine st_op (ev_assign rfl) rfl rfl rfl ?_
  refine st_op (ev_assign rfl) rfl rfl rfl ?_
  refine st_op (ev_assign rfl) rfl rfl rfl ?_
  try show aw _ _ _ _ _ _
  refine aw_seq ?_
  refine aw_seq ?_
  refine aw_reg ?_
  refine st_op (ev_move rfl) rfl rfl rfl ?_
  refine st_op (ev_int rfl rfl rfl) rfl rfl rfl ?_
  try show aw _ _ _ _ _ _
  by_cases hc12 : (z11 != 0) = true
  · refine aw_condT hc12 rfl ?_
    try show aw _ _ _ _ _ _
    have hc12 : ¬ (z11 = 0) := by simpa using hc12
    refine aw_seq ?_
    refine aw_reg ?_
    refine st_op (ev_move rfl) rfl rfl rfl ?_
    refine st_op (ev_assign rfl) rfl rfl rfl ?_
    refine st_op (ev_assign rfl) rfl rfl rfl ?_
    refine st_op (ev_assign rfl) rfl rfl rfl ?_
    try show aw _ _ _ _ _ _
    refine aw_ret ?_
    have hres : (Spec.getText b) = ((⟨#[]⟩ : ByteArray), 0, z11) := by unfold Spec.getText; (try simp only [hR8]); (repeat (first | rfl | rw [if_pos (by first | omega | (simp_all; done) | (simp_all; omega))] | rw [if_neg (by first | omega | (simp_all; done) | (simp_all; omega))]))
    exact ⟨.tuple #[.string (⟨#[]⟩), .int .i64 0, .int .i64 z11], rfl, by rw [hres], (by rw [hres]; first | omega | (refine ⟨?_, ?_, ?_⟩ <;> simp [strOfNums_size] <;> omega) | (simp [strOfNums_size]; omega) | (intro h; simp at h; done) | (simp; done) | (refine ⟨?_, ?_⟩ <;> (simp; try omega)) | (intro _; rfl) | (show (0 : Nat) ≤ _; omega)), (by rw [hres]; first | omega | (refine ⟨?_, ?_, ?_⟩ <;> simp [strOfNums_size] <;> omega) | (simp [strOfNums_size]; omega) | (intro h; simp at h; done) | (simp; done) | (refine ⟨?_, ?_⟩ <;> (simp; try omega)) | (intro _; rfl) | (show (0 : Nat) ≤ _; omega)), (by rw [hres]; first | omega | (refine ⟨?_, ?_, ?_⟩ <;> simp [strOfNums_size] <;> omega) | (simp [strOfNums_size]; omega) | (intro h; simp at h; done) | (simp; done) | (refine ⟨?_, ?_⟩ <;> (simp; try omega)) | (intro _; rfl) | (show (0 : Nat) ≤ _; omega)), (by rw [hres]; first | omega | (refine ⟨?_, ?_, ?_⟩ <;> simp [strOfNums_size] <;> omega) | (simp [strOfNums_size]; omega) | (intro h; simp at h; done) | (simp; done) | (refine ⟨?_, ?_⟩ <;> (simp; try omega)) | (intro _; rfl) | (show (0 : Nat) ≤ _; omega)), (by rw [hres]; first | omega | (refine ⟨?_, ?_, ?_⟩ <;> simp [strOfNums_size] <;> omega) | (simp [strOfNums_size]; omega) | (intro h; simp at h; done) | (simp; done) | (refine ⟨?_, ?_⟩ <;> (simp; try omega)) | (intro _; rfl) | (show (0 : Nat) ≤ _; omega)), hx3⟩
  · rw [Bool.not_eq_true] at hc12; refine aw_condF hc12 rfl ?_
    try show aw _ _ _ _ _ _
    have hc12 : (z11 = 0) := by simpa using hc12
    refine aw_skip ?_
    try show aw _ _ _ _ _ _
    refine aw_seq ?_
    refine aw_seq ?_
    refine aw_reg ?_
    refine st_op (ev_move rfl) rfl rfl rfl ?_
    refine st_op (ev_int rfl rfl rfl) rfl rfl rfl ?_
    refine st_op (ev_move rfl) rfl rfl rfl ?_
    refine st_bool 19 rfl (fun hb13 => ?_) (fun hb13 => ?_)
    ·
      have hb13 := of_decide_eq_true hb13
      refine st_skip rfl rfl rfl ?_
      refine st_skip rfl rfl rfl ?_
      refine st_op (ev_pickT rfl rfl) rfl rfl rfl ?_
      try show aw _ _ _ _ _ _
      refine aw_cond (t := true) rfl ?_
      try show aw _ _ _ _ _ _
      refine aw_seq ?_
      refine aw_reg ?_
      refine st_op (ev_assign rfl) rfl rfl rfl ?_
      refine st_op (ev_assign rfl) rfl rfl rfl ?_
      refine st_op (ev_assign rfl) rfl rfl rfl ?_
      try show aw _ _ _ _ _ _
      refine aw_ret ?_
      have hres : (Spec.getText b) = ((⟨#[]⟩ : ByteArray), 0, 1) := by unfold Spec.getText; (try simp only [hR8]); (repeat (first | rfl | rw [if_pos (by first | omega | (simp_all; done) | (simp_all; omega))] | rw [if_neg (by first | omega | (simp_all; done) | (simp_all; omega))]))
      exact ⟨.tuple #[.string (⟨#[]⟩), .int .i64 0, .int .i64 1], rfl, by rw [hres], (by rw [hres]; first | omega | (refine ⟨?_, ?_, ?_⟩ <;> simp [strOfNums_size] <;> omega) | (simp [strOfNums_size]; omega) | (intro h; simp at h; done) | (simp; done) | (refine ⟨?_, ?_⟩ <;> (simp; try omega)) | (intro _; rfl) | (show (0 : Nat) ≤ _; omega)), (by rw [hres]; first | omega | (refine ⟨?_, ?_, ?_⟩ <;> simp [strOfNums_size] <;> omega) | (simp [strOfNums_size]; omega) | (intro h; simp at h; done) | (simp; done) | (refine ⟨?_, ?_⟩ <;> (simp; try omega)) | (intro _; rfl) | (show (0 : Nat) ≤ _; omega)), (by rw [hres]; first | omega | (refine ⟨?_, ?_, ?_⟩ <;> simp [strOfNums_size] <;> omega) | (simp [strOfNums_size]; omega) | (intro h; simp at h; done) | (simp; done) | (refine ⟨?_, ?_⟩ <;> (simp; try omega)) | (intro _; rfl) | (show (0 : Nat) ≤ _; omega)), (by rw [hres]; first | omega | (refine ⟨?_, ?_, ?_⟩ <;> simp [strOfNums_size] <;> omega) | (simp [strOfNums_size]; omega) | (intro h; simp at h; done) | (simp; done) | (refine ⟨?_, ?_⟩ <;> (simp; try omega)) | (intro _; rfl) | (show (0 : Nat) ≤ _; omega)), (by rw [hres]; first | omega | (refine ⟨?_, ?_, ?_⟩ <;> simp [strOfNums_size] <;> omega) | (simp [strOfNums_size]; omega) | (intro h; simp at h; done) | (simp; done) | (refine ⟨?_, ?_⟩ <;> (simp; try omega)) | (intro _; rfl) | (show (0 : Nat) ≤ _; omega)), hx3⟩
    ·
      have hb13 := of_decide_eq_false hb13
      refine st_op (ev_move rfl) rfl rfl rfl ?_
      refine st_op (ev_int rfl rfl rfl) rfl rfl rfl ?_
      refine st_op (ev_pickF rfl rfl) rfl rfl rfl ?_
      try show aw _ _ _ _ _ _
      by_cases hc14 : (decide (z9 > 1048576)) = true
      · refine aw_condT hc14 rfl ?_
        try show aw _ _ _ _ _ _
        have hc14 := of_decide_eq_true hc14
        refine aw_seq ?_
        refine aw_reg ?_
        refine st_op (ev_assign rfl) rfl rfl rfl ?_
        refine st_op (ev_assign rfl) rfl rfl rfl ?_
        refine st_op (ev_assign rfl) rfl rfl rfl ?_
        try show aw _ _ _ _ _ _
        refine aw_ret ?_
        have hres : (Spec.getText b) = ((⟨#[]⟩ : ByteArray), 0, 1) := by unfold Spec.getText; (try simp only [hR8]); (repeat (first | rfl | rw [if_pos (by first | omega | (simp_all; done) | (simp_all; omega))] | rw [if_neg (by first | omega | (simp_all; done) | (simp_all; omega))]))
        exact ⟨.tuple #[.string (⟨#[]⟩), .int .i64 0, .int .i64 1], rfl, by rw [hres], (by rw [hres]; first | omega | (refine ⟨?_, ?_, ?_⟩ <;> simp [strOfNums_size] <;> omega) | (simp [strOfNums_size]; omega) | (intro h; simp at h; done) | (simp; done) | (refine ⟨?_, ?_⟩ <;> (simp; try omega)) | (intro _; rfl) | (show (0 : Nat) ≤ _; omega)), (by rw [hres]; first | omega | (refine ⟨?_, ?_, ?_⟩ <;> simp [strOfNums_size] <;> omega) | (simp [strOfNums_size]; omega) | (intro h; simp at h; done) | (simp; done) | (refine ⟨?_, ?_⟩ <;> (simp; try omega)) | (intro _; rfl) | (show (0 : Nat) ≤ _; omega)), (by rw [hres]; first | omega | (refine ⟨?_, ?_, ?_⟩ <;> simp [strOfNums_size] <;> omega) | (simp [strOfNums_size]; omega) | (intro h; simp at h; done) | (simp; done) | (refine ⟨?_, ?_⟩ <;> (simp; try omega)) | (intro _; rfl) | (show (0 : Nat) ≤ _; omega)), (by rw [hres]; first | omega | (refine ⟨?_, ?_, ?_⟩ <;> simp [strOfNums_size] <;> omega) | (simp [strOfNums_size]; omega) | (intro h; simp at h; done) | (simp; done) | (refine ⟨?_, ?_⟩ <;> (simp; try omega)) | (intro _; rfl) | (show (0 : Nat) ≤ _; omega)), (by rw [hres]; first | omega | (refine ⟨?_, ?_, ?_⟩ <;> simp [strOfNums_size] <;> omega) | (simp [strOfNums_size]; omega) | (intro h; simp at h; done) | (simp; done) | (refine ⟨?_, ?_⟩ <;> (simp; try omega)) | (intro _; rfl) | (show (0 : Nat) ≤ _; omega)), hx3⟩
      · rw [Bool.not_eq_true] at hc14; refine aw_condF hc14 rfl ?_
        try show aw _ _ _ _ _ _
        have hc14 := of_decide_eq_false hc14
        refine aw_skip ?_
        try show aw _ _ _ _ _ _
        refine aw_seq ?_
        refine aw_seq ?_
        refine aw_reg ?_
        refine st_op (ev_move rfl) rfl rfl rfl ?_
        refine st_op (ev_lenSl rfl Try.underlying30) rfl rfl rfl ?_
        refine st_op (ev_move rfl) rfl rfl rfl ?_
        refine st_op (ev_int64 (c := (b.length : Int) - z10) rfl rfl rfl (by omega) (by omega)) rfl rfl rfl ?_
        refine st_op (ev_move rfl) rfl rfl rfl ?_
        refine st_op (ev_int rfl rfl rfl) rfl rfl rfl ?_
        try show aw _ _ _ _ _ _
        by_cases hc15 : (decide ((b.length : Int) - z10 < z9)) = true
        · refine aw_condT hc15 rfl ?_
          try show aw _ _ _ _ _ _
          have hc15 := of_decide_eq_true hc15
          refine aw_seq ?_
          refine aw_reg ?_
          refine st_op (ev_assign rfl) rfl rfl rfl ?_
          refine st_op (ev_assign rfl) rfl rfl rfl ?_
          refine st_op (ev_assign rfl) rfl rfl rfl ?_
          try show aw _ _ _ _ _ _
          refine aw_ret ?_
          have hres : (Spec.getText b) = ((⟨#[]⟩ : ByteArray), 0, 2) := by unfold Spec.getText; (try simp only [hR8]); (repeat (first | rfl | rw [if_pos (by first | omega | (simp_all; done) | (simp_all; omega))] | rw [if_neg (by first | omega | (simp_all; done) | (simp_all; omega))]))
          exact ⟨.tuple #[.string (⟨#[]⟩), .int .i64 0, .int .i64 2], rfl, by rw [hres], (by rw [hres]; first | omega | (refine ⟨?_, ?_, ?_⟩ <;> simp [strOfNums_size] <;> omega) | (simp [strOfNums_size]; omega) | (intro h; simp at h; done) | (simp; done) | (refine ⟨?_, ?_⟩ <;> (simp; try omega)) | (intro _; rfl) | (show (0 : Nat) ≤ _; omega)), (by rw [hres]; first | omega | (refine ⟨?_, ?_, ?_⟩ <;> simp [strOfNums_size] <;> omega) | (simp [strOfNums_size]; omega) | (intro h; simp at h; done) | (simp; done) | (refine ⟨?_, ?_⟩ <;> (simp; try omega)) | (intro _; rfl) | (show (0 : Nat) ≤ _; omega)), (by rw [hres]; first | omega | (refine ⟨?_, ?_, ?_⟩ <;> simp [strOfNums_size] <;> omega) | (simp [strOfNums_size]; omega) | (intro h; simp at h; done) | (simp; done) | (refine ⟨?_, ?_⟩ <;> (simp; try omega)) | (intro _; rfl) | (show (0 : Nat) ≤ _; omega)), (by rw [hres]; first | omega | (refine ⟨?_, ?_, ?_⟩ <;> simp [strOfNums_size] <;> omega) | (simp [strOfNums_size]; omega) | (intro h; simp at h; done) | (simp; done) | (refine ⟨?_, ?_⟩ <;> (simp; try omega)) | (intro _; rfl) | (show (0 : Nat) ≤ _; omega)), (by rw [hres]; first | omega | (refine ⟨?_, ?_, ?_⟩ <;> simp [strOfNums_size] <;> omega) | (simp [strOfNums_size]; omega) | (intro h; simp at h; done) | (simp; done) | (refine ⟨?_, ?_⟩ <;> (simp; try omega)) | (intro _; rfl) | (show (0 : Nat) ≤ _; omega)), hx3⟩
        · rw [Bool.not_eq_true] at hc15; refine aw_condF hc15 rfl ?_
          try show aw _ _ _ _ _ _
          have hc15 := of_decide_eq_false hc15
          refine aw_skip ?_
          try show aw _ _ _ _ _ _
          refine aw_seq ?_
          refine aw_reg ?_
          refine st_op (ev_move rfl) rfl rfl rfl ?_
          refine st_op (ev_move rfl) rfl rfl rfl ?_
          refine st_op (ev_move rfl) rfl rfl rfl ?_
          refine st_op (ev_move rfl) rfl rfl rfl ?_
          refine st_op (ev_int64 (c := z10 + z9) rfl rfl rfl (by omega) (by omega)) rfl rfl rfl ?_
          have h24 := Row.ext hb hx3
          obtain ⟨A16, c17, L18, hL19, hl20, hs21, hr22, hc23⟩ := sliceA_typed u8c el30 (by decide) h24 cb (lo := some (.int .i64 z10)) (hi := some (.int .i64 (z10 + z9))) (l := (z10).toNat) (h := ((z10 + z9)).toNat) (by rw [Option.isSome_some, if_pos rfl]; exact bound_int (by first | omega | (simp only [List.length_append, List.length_cons, List.length_nil, List.length_map, List.length_set, List.length_replicate, Spec.bytesOf_length]; omega) | (simp; omega)) (by first | omega | (simp only [List.length_append, List.length_cons, List.length_nil, List.length_map, List.length_set, List.length_replicate, Spec.bytesOf_length]; omega) | (simp; omega)) (by first | rfl | omega)) (bound_int (by first | omega | (simp only [List.length_append, List.length_cons, List.length_nil, List.length_map, List.length_set, List.length_replicate, Spec.bytesOf_length]; omega) | (simp; omega)) (by first | omega | (simp only [List.length_append, List.length_cons, List.length_nil, List.length_map, List.length_set, List.length_replicate, Spec.bytesOf_length]; omega) | (simp; omega)) (by first | rfl | omega)) (by first | omega | (simp only [List.length_append, List.length_cons, List.length_nil, List.length_map, List.length_set, List.length_replicate, Spec.bytesOf_length]; omega) | (simp; omega)) (by first | omega | (simp only [List.length_append, List.length_cons, List.length_nil, List.length_map, List.length_set, List.length_replicate, Spec.bytesOf_length]; omega) | (simp; omega))
          refine st_op (ev_slice rfl rfl rfl rfl hs21) rfl rfl rfl ?_
          have hL19b : Spec.Bytes L18 := by rw [hL19]; exact Spec.Bytes.take (Spec.Bytes.drop (by first | assumption | exact Spec.Bytes.nil | exact Spec.bytes_of _ | (repeat' first | assumption | exact Spec.Bytes.nil | exact Spec.bytes_of _ | exact Spec.enc_bytes _ | exact Spec.four_bytes _ | exact Spec.sealF_bytes (by assumption) | apply Spec.Bytes.append | apply Spec.Bytes.cons (by omega) | apply Spec.Bytes.take | apply Spec.Bytes.drop)) _) _
          refine st_op (ev_strOf (l := L18) (A := A16) (c := c17) slu8_30 isstr_9 rfl (fun h => sliceA_none el30 (h ▸ hs21)) hr22) rfl rfl rfl ?_
          refine st_op (ev_move rfl) rfl rfl rfl ?_
          refine st_op (ev_move rfl) rfl rfl rfl ?_
          refine st_op (ev_int64 (c := z10 + z9) rfl rfl rfl (by omega) (by omega)) rfl rfl rfl ?_
          refine st_op (ev_assign rfl) rfl rfl rfl ?_
          refine st_op (ev_assign rfl) rfl rfl rfl ?_
          refine st_op (ev_assign rfl) rfl rfl rfl ?_
          try show aw _ _ _ _ _ _
          refine aw_ret ?_
          have hres : (Spec.getText b) = ((strOfNums L18), z10 + z9, 0) := by unfold Spec.getText; (try simp only [hR8]); (repeat (first | rfl | rw [if_pos (by first | omega | (simp_all; done) | (simp_all; omega))] | rw [if_neg (by first | omega | (simp_all; done) | (simp_all; omega))])); rw [hL19, show (z10 + z9).toNat - z10.toNat = z9.toNat by omega]
          exact ⟨.tuple #[.string (strOfNums L18), .int .i64 (z10 + z9), .int .i64 0], rfl, by rw [hres], (by rw [hres]; first | omega | (refine ⟨?_, ?_, ?_⟩ <;> simp [strOfNums_size] <;> omega) | (simp [strOfNums_size]; omega) | (intro h; simp at h; done) | (simp; done) | (refine ⟨?_, ?_⟩ <;> (simp; try omega)) | (intro _; rfl) | (show (0 : Nat) ≤ _; omega)), (by rw [hres]; first | omega | (refine ⟨?_, ?_, ?_⟩ <;> simp [strOfNums_size] <;> omega) | (simp [strOfNums_size]; omega) | (intro h; simp at h; done) | (simp; done) | (refine ⟨?_, ?_⟩ <;> (simp; try omega)) | (intro _; rfl) | (show (0 : Nat) ≤ _; omega)), (by rw [hres]; first | omega | (refine ⟨?_, ?_, ?_⟩ <;> simp [strOfNums_size] <;> omega) | (simp [strOfNums_size]; omega) | (intro h; simp at h; done) | (simp; done) | (refine ⟨?_, ?_⟩ <;> (simp; try omega)) | (intro _; rfl) | (show (0 : Nat) ≤ _; omega)), (by rw [hres]; first | omega | (refine ⟨?_, ?_, ?_⟩ <;> simp [strOfNums_size] <;> omega) | (simp [strOfNums_size]; omega) | (intro h; simp at h; done) | (simp; done) | (refine ⟨?_, ?_⟩ <;> (simp; try omega)) | (intro _; rfl) | (show (0 : Nat) ≤ _; omega)), (by rw [hres]; first | omega | (refine ⟨?_, ?_, ?_⟩ <;> simp [strOfNums_size] <;> omega) | (simp [strOfNums_size]; omega) | (intro h; simp at h; done) | (simp; done) | (refine ⟨?_, ?_⟩ <;> (simp; try omega)) | (intro _; rfl) | (show (0 : Nat) ≤ _; omega)), hx3⟩

end Go.AM
