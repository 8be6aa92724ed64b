/- Part of a machine of its own for this claim: the program's code over memory without draws. -/
import Derived.Test.YtoolcbdceijjlaaGreatSAmXRaftV2
set_option linter.unusedVariables false
set_option linter.unusedSimpArgs false
set_option linter.unnecessarySimpa false
set_option linter.unusedVariables false
set_option linter.unusedSimpArgs false
set_option linter.unnecessarySimpa false
namespace Go.AM
open Go Go.Proofs
theorem el38 : elemIs Tryz.prog 38 13 = true := by kernel_rfl
theorem ent13 : enters Tryz.prog 13 = true := by kernel_rfl
theorem ent14 : enters Tryz.prog 14 = true := by kernel_rfl
theorem ent15 : enters Tryz.prog 15 = true := by kernel_rfl
theorem ent16 : enters Tryz.prog 16 = true := by kernel_rfl
theorem ent9 : enters Tryz.prog 9 = true := by kernel_rfl
theorem fd35_0 : fieldFlat Tryz.prog 35 0 0 = true := by kernel_rfl
theorem isbool4 : isBoolT Tryz.prog 4 = true := by kernel_rfl
set_option maxHeartbeats 1600000 in
theorem law_RaftVote_spec (H : Heap) (pa : Int) (hpa : -9223372036854775808 ≤ pa ∧ pa ≤ 9223372036854775807) (pb : Int) (hpb : -9223372036854775808 ≤ pb ∧ pb ≤ 9223372036854775807) (ta : Int) (hta : -9223372036854775808 ≤ ta ∧ ta ≤ 9223372036854775807) (tb : Int) (htb : -9223372036854775808 ≤ tb ∧ tb ≤ 9223372036854775807) (twice : Bool) : ∃ v H', Spec Tryz.prog 4 [.int .i64 pa, .int .i64 pb, .int .i64 ta, .int .i64 tb, .bool twice] H v H' ∧ ((v = .bool true) ∧ (Ext H H')) := by
 refine spec_go5 E0_ok 149 (f := 4) Tryz.func4 rfl rfl rfl ?_
 refine aw_seq ?_
 refine aw_reg ?_
 refine st_op (ev_assign rfl) rfl rfl rfl ?_
 try show aw _ _ _ _ _ _
 refine aw_seq ?_
 refine aw_reg ?_
 refine st_call rfl rfl rfl ent9 rfl rfl rfl ?_
 obtain ⟨_, H2, hs1, hs1v, hx3⟩ := law24_begun_spec H 
 rw [hs1v] at hs1; clear hs1v
 rw [hx3] at hs1; clear hx3
 refine ⟨_, H, hs1, ?_⟩
 refine st_op (ev_assign rfl) rfl rfl rfl ?_
 try show aw _ _ _ _ _ _
 iterate 2 refine aw_seq ?_
 refine aw_reg ?_
 refine st_op (ev_move rfl) rfl rfl rfl ?_
 refine st_op (ev_not rfl) rfl rfl rfl ?_
 try show aw _ _ _ _ _ _
 refine aw_cond (t := false) rfl ?_
 try show aw _ _ _ _ _ _
 refine aw_skip ?_
 try show aw _ _ _ _ _ _
 iterate 2 refine aw_seq ?_
 refine aw_reg ?_
 refine st_op (ev_move rfl) rfl rfl rfl ?_
 refine st_op (ev_int rfl rfl rfl) rfl rfl rfl ?_
 refine st_op (ev_move rfl) rfl rfl rfl ?_
 refine st_bool 24 rfl (fun hb4 => ?_) (fun hb4 => ?_)
 ·
  have hb4 := of_decide_eq_true hb4
  iterate 2 refine st_skip rfl rfl rfl ?_
  refine st_op (ev_pickT rfl rfl) rfl rfl rfl ?_
  refine st_op (ev_move rfl) rfl rfl rfl ?_
  iterate 2 refine st_skip rfl rfl rfl ?_
  refine st_op (ev_pickT rfl rfl) rfl rfl rfl ?_
  refine st_op (ev_move rfl) rfl rfl rfl ?_
  iterate 2 refine st_skip rfl rfl rfl ?_
  refine st_op (ev_pickT rfl rfl) rfl rfl rfl ?_
  refine st_op (ev_move rfl) rfl rfl rfl ?_
  iterate 2 refine st_skip rfl rfl rfl ?_
  refine st_op (ev_pickT rfl rfl) rfl rfl rfl ?_
  refine st_op (ev_move rfl) rfl rfl rfl ?_
  iterate 2 refine st_skip rfl rfl rfl ?_
  refine st_op (ev_pickT rfl rfl) rfl rfl rfl ?_
  refine st_op (ev_move rfl) rfl rfl rfl ?_
  iterate 2 refine st_skip rfl rfl rfl ?_
  refine st_op (ev_pickT rfl rfl) rfl rfl rfl ?_
  refine st_op (ev_move rfl) rfl rfl rfl ?_
  iterate 2 refine st_skip rfl rfl rfl ?_
  refine st_op (ev_pickT rfl rfl) rfl rfl rfl ?_
  try show aw _ _ _ _ _ _
  refine aw_cond (t := true) rfl ?_
  try show aw _ _ _ _ _ _
  refine aw_seq ?_
  refine aw_reg ?_
  refine st_op (ev_assign rfl) rfl rfl rfl ?_
  try show aw _ _ _ _ _ _
  refine aw_ret ?_
  have hres : true = true := by rfl
  exact ⟨.bool true, rfl, by first | (rw [hres]; done) | rw [← hres], (Ext.refl H)⟩
 ·
  have hb4 := of_decide_eq_false hb4
  refine st_op (ev_move rfl) rfl rfl rfl ?_
  refine st_op (ev_int rfl rfl rfl) rfl rfl rfl ?_
  refine st_op (ev_pickF rfl rfl) rfl rfl rfl ?_
  refine st_op (ev_move rfl) rfl rfl rfl ?_
  refine st_bool 28 rfl (fun hb5 => ?_) (fun hb5 => ?_)
  ·
   have hb5 := of_decide_eq_true hb5
   iterate 2 refine st_skip rfl rfl rfl ?_
   refine st_op (ev_pickT rfl rfl) rfl rfl rfl ?_
   refine st_op (ev_move rfl) rfl rfl rfl ?_
   iterate 2 refine st_skip rfl rfl rfl ?_
   refine st_op (ev_pickT rfl rfl) rfl rfl rfl ?_
   refine st_op (ev_move rfl) rfl rfl rfl ?_
   iterate 2 refine st_skip rfl rfl rfl ?_
   refine st_op (ev_pickT rfl rfl) rfl rfl rfl ?_
   refine st_op (ev_move rfl) rfl rfl rfl ?_
   iterate 2 refine st_skip rfl rfl rfl ?_
   refine st_op (ev_pickT rfl rfl) rfl rfl rfl ?_
   refine st_op (ev_move rfl) rfl rfl rfl ?_
   iterate 2 refine st_skip rfl rfl rfl ?_
   refine st_op (ev_pickT rfl rfl) rfl rfl rfl ?_
   refine st_op (ev_move rfl) rfl rfl rfl ?_
   iterate 2 refine st_skip rfl rfl rfl ?_
   refine st_op (ev_pickT rfl rfl) rfl rfl rfl ?_
   try show aw _ _ _ _ _ _
   refine aw_cond (t := true) rfl ?_
   try show aw _ _ _ _ _ _
   refine aw_seq ?_
   refine aw_reg ?_
   refine st_op (ev_assign rfl) rfl rfl rfl ?_
   try show aw _ _ _ _ _ _
   refine aw_ret ?_
   have hres : true = true := by rfl
   exact ⟨.bool true, rfl, by first | (rw [hres]; done) | rw [← hres], (Ext.refl H)⟩
  ·
   have hb5 := of_decide_eq_false hb5
   refine st_op (ev_move rfl) rfl rfl rfl ?_
   refine st_op (ev_int rfl rfl rfl) rfl rfl rfl ?_
   refine st_op (ev_pickF rfl rfl) rfl rfl rfl ?_
   refine st_op (ev_move rfl) rfl rfl rfl ?_
   refine st_bool 32 rfl (fun hb6 => ?_) (fun hb6 => ?_)
   ·
    have hb6 := of_decide_eq_true hb6
    iterate 2 refine st_skip rfl rfl rfl ?_
    refine st_op (ev_pickT rfl rfl) rfl rfl rfl ?_
    refine st_op (ev_move rfl) rfl rfl rfl ?_
    iterate 2 refine st_skip rfl rfl rfl ?_
    refine st_op (ev_pickT rfl rfl) rfl rfl rfl ?_
    refine st_op (ev_move rfl) rfl rfl rfl ?_
    iterate 2 refine st_skip rfl rfl rfl ?_
    refine st_op (ev_pickT rfl rfl) rfl rfl rfl ?_
    refine st_op (ev_move rfl) rfl rfl rfl ?_
    iterate 2 refine st_skip rfl rfl rfl ?_
    refine st_op (ev_pickT rfl rfl) rfl rfl rfl ?_
    refine st_op (ev_move rfl) rfl rfl rfl ?_
    iterate 2 refine st_skip rfl rfl rfl ?_
    refine st_op (ev_pickT rfl rfl) rfl rfl rfl ?_
    try show aw _ _ _ _ _ _
    refine aw_cond (t := true) rfl ?_
    try show aw _ _ _ _ _ _
    refine aw_seq ?_
    refine aw_reg ?_
    refine st_op (ev_assign rfl) rfl rfl rfl ?_
    try show aw _ _ _ _ _ _
    refine aw_ret ?_
    have hres : true = true := by rfl
    exact ⟨.bool true, rfl, by first | (rw [hres]; done) | rw [← hres], (Ext.refl H)⟩
   ·
    have hb6 := of_decide_eq_false hb6
    refine st_op (ev_move rfl) rfl rfl rfl ?_
    refine st_op (ev_int rfl rfl rfl) rfl rfl rfl ?_
    refine st_op (ev_pickF rfl rfl) rfl rfl rfl ?_
    refine st_op (ev_move rfl) rfl rfl rfl ?_
    refine st_bool 36 rfl (fun hb7 => ?_) (fun hb7 => ?_)
    ·
     have hb7 := of_decide_eq_true hb7
     iterate 2 refine st_skip rfl rfl rfl ?_
     refine st_op (ev_pickT rfl rfl) rfl rfl rfl ?_
     refine st_op (ev_move rfl) rfl rfl rfl ?_
     iterate 2 refine st_skip rfl rfl rfl ?_
     refine st_op (ev_pickT rfl rfl) rfl rfl rfl ?_
     refine st_op (ev_move rfl) rfl rfl rfl ?_
     iterate 2 refine st_skip rfl rfl rfl ?_
     refine st_op (ev_pickT rfl rfl) rfl rfl rfl ?_
     refine st_op (ev_move rfl) rfl rfl rfl ?_
     iterate 2 refine st_skip rfl rfl rfl ?_
     refine st_op (ev_pickT rfl rfl) rfl rfl rfl ?_
     try show aw _ _ _ _ _ _
     refine aw_cond (t := true) rfl ?_
     try show aw _ _ _ _ _ _
     refine aw_seq ?_
     refine aw_reg ?_
     refine st_op (ev_assign rfl) rfl rfl rfl ?_
     try show aw _ _ _ _ _ _
     refine aw_ret ?_
     have hres : true = true := by rfl
     exact ⟨.bool true, rfl, by first | (rw [hres]; done) | rw [← hres], (Ext.refl H)⟩
    ·
     have hb7 := of_decide_eq_false hb7
     refine st_op (ev_move rfl) rfl rfl rfl ?_
     refine st_op (ev_int rfl rfl rfl) rfl rfl rfl ?_
     refine st_op (ev_pickF rfl rfl) rfl rfl rfl ?_
     refine st_op (ev_move rfl) rfl rfl rfl ?_
     refine st_bool 40 rfl (fun hb8 => ?_) (fun hb8 => ?_)
     ·
      have hb8 := of_decide_eq_true hb8
      iterate 2 refine st_skip rfl rfl rfl ?_
      refine st_op (ev_pickT rfl rfl) rfl rfl rfl ?_
      refine st_op (ev_move rfl) rfl rfl rfl ?_
      iterate 2 refine st_skip rfl rfl rfl ?_
      refine st_op (ev_pickT rfl rfl) rfl rfl rfl ?_
      refine st_op (ev_move rfl) rfl rfl rfl ?_
      iterate 2 refine st_skip rfl rfl rfl ?_
      refine st_op (ev_pickT rfl rfl) rfl rfl rfl ?_
      try show aw _ _ _ _ _ _
      refine aw_cond (t := true) rfl ?_
      try show aw _ _ _ _ _ _
      refine aw_seq ?_
      refine aw_reg ?_
      refine st_op (ev_assign rfl) rfl rfl rfl ?_
      try show aw _ _ _ _ _ _
      refine aw_ret ?_
      have hres : true = true := by rfl
      exact ⟨.bool true, rfl, by first | (rw [hres]; done) | rw [← hres], (Ext.refl H)⟩
     ·
      have hb8 := of_decide_eq_false hb8
      refine st_op (ev_move rfl) rfl rfl rfl ?_
      refine st_op (ev_int rfl rfl rfl) rfl rfl rfl ?_
      refine st_op (ev_pickF rfl rfl) rfl rfl rfl ?_
      refine st_op (ev_move rfl) rfl rfl rfl ?_
      refine st_bool 44 rfl (fun hb9 => ?_) (fun hb9 => ?_)
      ·
       have hb9 := of_decide_eq_true hb9
       iterate 2 refine st_skip rfl rfl rfl ?_
       refine st_op (ev_pickT rfl rfl) rfl rfl rfl ?_
       refine st_op (ev_move rfl) rfl rfl rfl ?_
       iterate 2 refine st_skip rfl rfl rfl ?_
       refine st_op (ev_pickT rfl rfl) rfl rfl rfl ?_
       try show aw _ _ _ _ _ _
       refine aw_cond (t := true) rfl ?_
       try show aw _ _ _ _ _ _
       refine aw_seq ?_
       refine aw_reg ?_
       refine st_op (ev_assign rfl) rfl rfl rfl ?_
       try show aw _ _ _ _ _ _
       refine aw_ret ?_
       have hres : true = true := by rfl
       exact ⟨.bool true, rfl, by first | (rw [hres]; done) | rw [← hres], (Ext.refl H)⟩
      ·
       have hb9 := of_decide_eq_false hb9
       refine st_op (ev_move rfl) rfl rfl rfl ?_
       refine st_op (ev_int rfl rfl rfl) rfl rfl rfl ?_
       refine st_op (ev_pickF rfl rfl) rfl rfl rfl ?_
       refine st_op (ev_move rfl) rfl rfl rfl ?_
       refine st_bool 48 rfl (fun hb10 => ?_) (fun hb10 => ?_)
       ·
        have hb10 := of_decide_eq_true hb10
        iterate 2 refine st_skip rfl rfl rfl ?_
        refine st_op (ev_pickT rfl rfl) rfl rfl rfl ?_
        try show aw _ _ _ _ _ _
        refine aw_cond (t := true) rfl ?_
        try show aw _ _ _ _ _ _
        refine aw_seq ?_
        refine aw_reg ?_
        refine st_op (ev_assign rfl) rfl rfl rfl ?_
        try show aw _ _ _ _ _ _
        refine aw_ret ?_
        have hres : true = true := by rfl
        exact ⟨.bool true, rfl, by first | (rw [hres]; done) | rw [← hres], (Ext.refl H)⟩
       ·
        have hb10 := of_decide_eq_false hb10
        refine st_op (ev_move rfl) rfl rfl rfl ?_
        refine st_op (ev_int rfl rfl rfl) rfl rfl rfl ?_
        refine st_op (ev_pickF rfl rfl) rfl rfl rfl ?_
        try show aw _ _ _ _ _ _
        by_cases hc11 : (decide (tb > 3)) = true
        ·
         refine aw_condT hc11 rfl ?_
         try show aw _ _ _ _ _ _
         have hc11 := of_decide_eq_true hc11
         refine aw_seq ?_
         refine aw_reg ?_
         refine st_op (ev_assign rfl) rfl rfl rfl ?_
         try show aw _ _ _ _ _ _
         refine aw_ret ?_
         have hres : true = true := by rfl
         exact ⟨.bool true, rfl, by first | (rw [hres]; done) | rw [← hres], (Ext.refl H)⟩
        ·
         rw [Bool.not_eq_true] at hc11; refine aw_condF hc11 rfl ?_
         try show aw _ _ _ _ _ _
         have hc11 := of_decide_eq_false hc11
         refine aw_skip ?_
         try show aw _ _ _ _ _ _
         refine aw_seq ?_
         refine aw_reg ?_
         refine st_op (ev_assign rfl) rfl rfl rfl ?_
         try show aw _ _ _ _ _ _
         iterate 2 refine aw_seq ?_
         refine aw_reg ?_
         refine st_op (ev_assign rfl) rfl rfl rfl ?_
         try show aw _ _ _ _ _ _
         refine aw_block ?_
         have hm14 : My H H none 0 4 (([] : List Entry).map Entry.cells) := .nil
         refine aw_keep [0, 1, 2, 3, 4, 12, 13] (l' := (.cons 0 (.int .i64 pa) (.cons 1 (.int .i64 pb) (.cons 2 (.int .i64 ta) (.cons 3 (.int .i64 tb) (.cons 4 (.bool twice) (.cons 12 (.slice none 0 0) (.cons 13 (.int .i64 1) .nil)))))))) (by repeat (first | exact Up.done | refine Up.then ?_ | refine Up.inBlock ?_)) rfl ?_
         refine aw_iter (α := Int × Option Addr × Nat × List Entry × Heap) (fun a => (pa + 1 - a.1).toNat) (fun a => (.cons 0 (.int .i64 pa) (.cons 1 (.int .i64 pb) (.cons 2 (.int .i64 ta) (.cons 3 (.int .i64 tb) (.cons 4 (.bool twice) (.cons 12 (.slice a.2.1 a.2.2.2.1.length a.2.2.1) (.cons 13 (.int .i64 a.1) .nil)))))))) (fun a => a.2.2.2.2) (fun a => (a.1 ≤ pa + 1) ∧ (a.2.2.2.1 = Spec.votesL (a.1 - 1).toNat ta) ∧ (1 ≤ a.1 ∧ a.1 ≤ 21) ∧ (My H a.2.2.2.2 a.2.1 a.2.2.1 4 (a.2.2.2.1.map Entry.cells)) ∧ (Ext H a.2.2.2.2)) ((1 : Int), none, 0, ([] : List Entry), H) ⟨(show (1 : Int) ≤ pa + 1 from (by omega)), (show ([] : List Entry) = Spec.votesL ((1 : Int) - 1).toNat ta from rfl), (show 1 ≤ (1 : Int) ∧ (1 : Int) ≤ 21 from ⟨by omega, by omega⟩), (show My H H none 0 4 (([] : List Entry).map Entry.cells) from hm14), (show Ext H H from (Ext.refl H))⟩ ?_
         rintro ⟨i, A, cp, l, Hl12⟩ ⟨hi, hl, hn13, hm15, hxl16⟩ ih17
         replace hi : i ≤ pa + 1 := hi
         replace hl : l = Spec.votesL (i - 1).toNat ta := hl
         replace hn13 : 1 ≤ i ∧ i ≤ 21 := hn13
         replace hm15 : My H Hl12 A cp 4 (l.map Entry.cells) := hm15
         replace hxl16 : Ext H Hl12 := hxl16
         show aw _ _ _ (RL _ (.cons 0 (.int .i64 pa) (.cons 1 (.int .i64 pb) (.cons 2 (.int .i64 ta) (.cons 3 (.int .i64 tb) (.cons 4 (.bool twice) (.cons 12 (.slice A l.length cp) (.cons 13 (.int .i64 i) .nil)))))))) Hl12 _
         have Hl12n : H.next ≤ Hl12.next := hxl16.1
         have hll : l.length = (i - 1).toNat := by rw [hl, Spec.votesL_len]
         iterate 2 refine aw_seq ?_
         refine aw_reg ?_
         iterate 2 refine st_op (ev_move rfl) rfl rfl rfl ?_
         refine st_op (ev_int rfl rfl rfl) rfl rfl rfl ?_
         try show aw _ _ _ _ _ _
         by_cases hc18 : (decide (i ≤ pa)) = true
         ·
          refine aw_condT hc18 rfl ?_
          try show aw _ _ _ _ _ _
          have hc18 := of_decide_eq_true hc18
          refine aw_skip ?_
          try show aw _ _ _ _ _ _
          refine aw_seq ?_
          refine aw_block ?_
          refine aw_reg ?_
          iterate 3 refine st_op (ev_move rfl) rfl rfl rfl ?_
          refine st_op (ev_build zero31 pl31 (parts := [(0, .int .i64 i), (1, .int .i64 ta), (2, .int .i64 1)]) rfl (cs := [.int .i64 i, .int .i64 ta, .int .i64 1, .string (⟨#[]⟩)]) rfl) rfl rfl rfl ?_
          obtain ⟨b19, H20, he21, b19e, H20n_, hm23, f22⟩ := mem_lit Hl12 (xs := ([.agg #[.int .i64 i, .int .i64 ta, .int .i64 1, .string (⟨#[]⟩)]] : List Value)) (m := 1) (rows := [[.int .i64 i, .int .i64 ta, .int .i64 1, .string (⟨#[]⟩)]]) rfl eok22 (by decide) (by decide) zf31 rfl (allLen rfl) rfl
          replace hm23 : My Hl12 H20 (some ⟨b19, 0, none⟩) 1 4 ([(⟨i, ta, 1, (⟨#[]⟩ : ByteArray)⟩ : Entry)].map Entry.cells) := hm23
          refine st_op (he21 _ _ _ _ _ _ _ _ rfl) rfl rfl rfl ?_
          have hx24 : Ext Hl12 H20 := Ext.new (by omega) H20n_ f22
          have H20n : Hl12.next ≤ H20.next := hx24.1
          have h25 := My.ext hm15 hx24
          obtain ⟨A26, c27, H28, W29, he30, hm31, hf32⟩ := mem_append (f := Entry.cells) (old := l) (new := [(⟨i, ta, 1, (⟨#[]⟩ : ByteArray)⟩ : Entry)]) (m := l.length) (mx := 1) (c := cp) (by first | rfl | simp) (by first | rfl | simp) eok22 (by decide) hm15 h25 (by omega) (((My.row hm23)).srcF (by decide) (by first | rfl | simp)) rfl Entry.cells_len Entry.cells_one (by first | omega | (simp only [List.length_append, List.length_cons, List.length_nil, List.length_map, List.length_set, List.length_replicate, Spec.bytesOf_length]; omega) | (simp; omega)) (by first | omega | (simp only [List.length_append, List.length_cons, List.length_nil, List.length_map, List.length_set, List.length_replicate, Spec.bytesOf_length]; omega) | (simp; omega))
          refine st_op (he30 _ _ _ _ _ _ _ _ _ _ rfl rfl isrow22) rfl rfl rfl ?_
          have H28n : H20.next ≤ H28.next := hf32.1
          refine st_op (ev_assign rfl) rfl rfl rfl ?_
          try show aw _ _ _ _ _ _
          refine aw_reg ?_
          refine st_op (ev_move rfl) rfl rfl rfl ?_
          refine st_op (ev_int64 (c := i + 1) rfl rfl rfl (by omega) (by omega)) rfl rfl rfl ?_
          refine st_op (ev_assign rfl) rfl rfl rfl ?_
          try show aw _ _ _ _ _ _
          have hx33 : Ext H H28 := (Ext.then (Ext.trans hxl16 hx24) hf32 (fun q hq e => by omega))
          refine aw_keep [0, 1, 2, 3, 4, 12, 13] (l' := (.cons 0 (.int .i64 pa) (.cons 1 (.int .i64 pb) (.cons 2 (.int .i64 ta) (.cons 3 (.int .i64 tb) (.cons 4 (.bool twice) (.cons 12 (.slice A26 ((l ++ [(⟨i, ta, 1, (⟨#[]⟩ : ByteArray)⟩ : Entry)]).length) c27) (.cons 13 (.int .i64 (i + 1)) .nil)))))))) (by repeat (first | exact Up.done | refine Up.then ?_ | refine Up.inBlock ?_)) rfl ?_
          exact ih17 (i + 1, A26, c27, (l ++ [(⟨i, ta, 1, (⟨#[]⟩ : ByteArray)⟩ : Entry)]), H28) ⟨(show (i + 1) ≤ pa + 1 from (by omega)), (show (l ++ [(⟨i, ta, 1, (⟨#[]⟩ : ByteArray)⟩ : Entry)]) = Spec.votesL ((i + 1) - 1).toNat ta from (by rw [show (i + 1 - 1).toNat = (i - 1).toNat + 1 by omega, Spec.votesL_succ, ← hl, show (((i - 1).toNat : Nat) : Int) + 1 = i by omega])), (show 1 ≤ (i + 1) ∧ (i + 1) ≤ 21 from ⟨by omega, by omega⟩), (show My H H28 A26 c27 4 ((l ++ [(⟨i, ta, 1, (⟨#[]⟩ : ByteArray)⟩ : Entry)]).map Entry.cells) from hm31), (show Ext H H28 from hx33)⟩ (by simp only; omega)
         ·
          rw [Bool.not_eq_true] at hc18; refine aw_condF hc18 rfl ?_
          try show aw _ _ _ _ _ _
          have hc18 := of_decide_eq_false hc18
          refine aw_exit ?_
          try show aw _ _ _ _ _ _
          refine aw_join (α := Int × Heap) (fun a => (.cons 0 (.int .i64 pa) (.cons 1 (.int .i64 pb) (.cons 2 (.int .i64 a.1) (.cons 3 (.int .i64 tb) (.cons 4 (.bool twice) (.cons 12 (.slice A l.length cp) .nil))))))) (fun a => a.2) (fun a => (a.1 = if pa = 0 then 0 else ta) ∧ (0 ≤ a.1 ∧ a.1 ≤ 3) ∧ (Ext Hl12 a.2)) ?_ (fun hJ37 => ?_)
          ·
           rintro ⟨ta1, Hl34⟩ ⟨hta, hn35, hxl36⟩
           replace hta : ta1 = if pa = 0 then 0 else ta := hta
           replace hn35 : 0 ≤ ta1 ∧ ta1 ≤ 3 := hn35
           replace hxl36 : Ext Hl12 Hl34 := hxl36
           show aw _ _ _ (RL _ (.cons 0 (.int .i64 pa) (.cons 1 (.int .i64 pb) (.cons 2 (.int .i64 ta1) (.cons 3 (.int .i64 tb) (.cons 4 (.bool twice) (.cons 12 (.slice A l.length cp) .nil))))))) Hl34 _
           have Hl34n : Hl12.next ≤ Hl34.next := hxl36.1
           refine aw_join (α := Int × Heap) (fun a => (.cons 0 (.int .i64 pa) (.cons 1 (.int .i64 pb) (.cons 2 (.int .i64 ta1) (.cons 3 (.int .i64 a.1) (.cons 4 (.bool twice) (.cons 12 (.slice A l.length cp) .nil))))))) (fun a => a.2) (fun a => (0 ≤ a.1 ∧ a.1 ≤ 3) ∧ (Ext Hl34 a.2)) ?_ (fun hJ41 => ?_)
           ·
            rintro ⟨tb1, Hl38⟩ ⟨hn39, hxl40⟩
            replace hn39 : 0 ≤ tb1 ∧ tb1 ≤ 3 := hn39
            replace hxl40 : Ext Hl34 Hl38 := hxl40
            show aw _ _ _ (RL _ (.cons 0 (.int .i64 pa) (.cons 1 (.int .i64 pb) (.cons 2 (.int .i64 ta1) (.cons 3 (.int .i64 tb1) (.cons 4 (.bool twice) (.cons 12 (.slice A l.length cp) .nil))))))) Hl38 _
            have Hl38n : Hl34.next ≤ Hl38.next := hxl40.1
            refine aw_seq ?_
            refine aw_reg ?_
            refine st_op (ev_build zero35 pl35 (parts := [(0, .int .i64 3)]) rfl (cs := [.int .i64 3, .int .i64 0]) rfl) rfl rfl rfl ?_
            refine st_op (ev_build zero24 pl24 (parts := [(2, .string (⟨#[49, 50, 51]⟩))]) rfl (cs := [.int .i64 0, .int .i64 0, .string (⟨#[49, 50, 51]⟩), .string (⟨#[]⟩)]) rfl) rfl rfl rfl ?_
            refine st_op (ev_move rfl) rfl rfl rfl ?_
            refine st_call rfl rfl rfl ent14 rfl rfl rfl ?_
            have hx43 : Ext Hl12 Hl38 := (Ext.trans hxl36 hxl40)
            have h42 := My.ext hm15 hx43
            have hc44 : (Spec.newOk (0 : Int) (0 : Int) l) = true := (by rw [hl]; exact Spec.votesL_new (by omega) (by omega))
            have hok0 := Spec.newOk_ok hc44 (by rw [hl]; exact Spec.votesL_ents (by omega))
            obtain ⟨_, H46, hs45, A48, c49, b51, hs45v, hm50, b51l, b51h, b51B, hx47⟩ := rlog_New_spec Hl38 (0 : Int) (0 : Int) (⟨#[49, 50, 51]⟩ : ByteArray) (⟨#[]⟩ : ByteArray) A l cp (My.row h42) (My.capF h42 (by omega)) (by omega) (by assumption)
            rw [hs45v] at hs45; clear hs45v
            refine ⟨_, H46, hs45, ?_⟩
            have H46n : Hl38.next ≤ H46.next := hx47.1
            refine st_call rfl rfl rfl ent13 rfl rfl rfl ?_
            obtain ⟨_, H53, hs52, b55, hs52v, b55l, b55h, b55B, hx54⟩ := raft_New_spec H46 1 (by decide) (3 : Int) (0 : Int) (by first | assumption | (rw [Spec.mayH_eq]; decide)) (0 : Int) ⟨by omega, by omega⟩ (0 : Int) (⟨#[49, 50, 51]⟩ : ByteArray) (by decide) (⟨#[]⟩ : ByteArray) A48 l c49 (My.row hm50) (My.capF hm50 (by omega)) (by omega) b51 (by omega) b51B (by assumption) 0 (by decide) (by omega)
            rw [hs52v] at hs52; clear hs52v
            refine ⟨_, H53, hs52, ?_⟩
            have H53n : H46.next ≤ H53.next := hx54.1
            refine st_op (ev_assign rfl) rfl rfl rfl ?_
            try show aw _ _ _ _ _ _
            iterate 2 refine aw_seq ?_
            refine aw_reg ?_
            refine st_op (ev_move rfl) rfl rfl rfl ?_
            refine st_op (ev_nilEq rfl rfl Tryz.underlying32) rfl rfl rfl ?_
            try show aw _ _ _ _ _ _
            refine aw_cond (t := false) rfl ?_
            try show aw _ _ _ _ _ _
            refine aw_skip ?_
            try show aw _ _ _ _ _ _
            refine aw_seq ?_
            refine aw_reg ?_
            iterate 3 refine st_op (ev_move rfl) rfl rfl rfl ?_
            refine st_op (ev_build zero26 pl26 (parts := [(0, .int .i64 1), (1, .int .i64 2), (2, .int .i64 1), (3, .int .i64 4), (4, .int .i64 pb), (5, .int .i64 tb1)]) rfl (cs := [.int .i64 1, .int .i64 2, .int .i64 1, .int .i64 4, .int .i64 pb, .int .i64 tb1, .int .i64 0, .bool false, .slice none 0 0, .int .i64 0, .int .i64 0, .string (⟨#[]⟩), .string (⟨#[]⟩)]) rfl) rfl rfl rfl ?_
            refine st_call rfl rfl rfl ent15 rfl rfl rfl ?_
            have h56 := My.ext hm50 hx54
            have h57 := Ext.blk hx54 (by omega) b51B
            obtain ⟨_, H59, hs58, A61, c62, hs58v, hm63, hE66, hB67, hq64, hq65, hx60⟩ := raft_StepUp_spec H53 (1 : Int) ⟨by omega, by omega⟩ (3 : Int) (0 : Int) (0 : Int) ⟨by omega, by omega⟩ (0 : Int) (⟨#[49, 50, 51]⟩ : ByteArray) (by decide) (⟨#[]⟩ : ByteArray) A48 l c49 (My.row h56) (My.capF h56 (by omega)) (by omega) b51 (by omega) h57 (by assumption) (0 : Int) (0 : Int) (0 : Int) false    false (0 : Int) false b55 (by omega) b55B (by omega) (1 : Int) (2 : Int) (1 : Int) (4 : Int) pb tb1 (0 : Int) false none ([] : List Entry) 0 Row.nil (Nat.le_refl 0) (Nat.zero_le _) (0 : Int) (0 : Int) (⟨#[]⟩ : ByteArray) (by decide) (⟨#[]⟩ : ByteArray) (by decide) (by first | assumption | exact Spec.may_vote (by omega) (by omega) (by omega)) (by omega)
            rw [hs58v] at hs58; clear hs58v
            generalize hR69 : (Spec.voteF (1 : Int) (4 : Int) 0 false (false || decide ((4 : Int) ≠ (3 : Int) ∨ 0 ≠ (0 : Int))) (0 : Int) (0 : Int) l (2 : Int) pb tb1) = r68 at hs58 hm63 hE66 hB67 hq64 hq65
            obtain ⟨z70, z71, z72, z73⟩ := r68
            dsimp only at hs58 hm63 hE66 hB67 hq64 hq65
            refine ⟨_, H59, hs58, ?_⟩
            have H59n : H53.next ≤ H59.next := hx60.1
            have hta2 : (if (i - 1).toNat = 0 then (0 : Int) else ta) = ta1 := by rw [hta]; by_cases q : pa = 0; (rw [if_pos (by omega), if_pos q]); (rw [if_neg (by omega), if_neg q])
            have hn1 : Spec.newerF 0 0 l pb tb1 = decide (tb1 > ta1 ∨ tb1 = ta1 ∧ pb ≥ pa) := by rw [hl, Spec.votesL_newer, hta2]; exact decide_eq_decide.2 (by omega)
            obtain ⟨b74, H75, he76, b74e, H75n_, hB78, f77⟩ := mem_alloc H59 zero40
            refine st_op (he76 _ _ _ _ _ _ _) rfl rfl rfl ?_
            have hx79 : Ext H59 H75 := Ext.new (by omega) H75n_ f77
            have H75n : H59.next ≤ H75.next := hx79.1
            obtain ⟨H80, he81, H80n_, hB82, f83⟩ := mem_store (v := .agg #[.slice A61 z70.length c62, .bool z71, .int .i64 (0 : Int), .bool false]) (o := 0) (cs' := [.slice A61 z70.length c62, .bool z71, .int .i64 (0 : Int), .bool false]) 4 rfl rfl size40 hB78 rfl rfl rfl
            refine st_op0 (he81 _ _ _ _ _ _ _ _ _ rfl rfl) rfl rfl ?_
            have hf84 : Fr (fun q => q = b74) H75 H80 := Fr.write H80n_ f83
            have H80n : H75.next ≤ H80.next := hf84.1
            try show aw _ _ _ _ _ _
            refine aw_join (α := Bool × Heap) (fun a => (.cons 4 (.bool twice) (.cons 14 (.pointer (some ⟨b55, 0, none⟩)) (.cons 15 (.pointer (some ⟨b74, 0, none⟩)) (.cons 16 (.bool a.1) .nil))))) (fun a => a.2) (fun a => (a.1 = decide (tb1 > ta1 ∨ tb1 = ta1 ∧ pb ≥ pa)) ∧ (Ext H80 a.2)) ?_ (fun hJ87 => ?_)
            ·
             rintro ⟨want, Hl85⟩ ⟨hw, hxl86⟩
             replace hw : want = decide (tb1 > ta1 ∨ tb1 = ta1 ∧ pb ≥ pa) := hw
             replace hxl86 : Ext H80 Hl85 := hxl86
             show aw _ _ _ (RL _ (.cons 4 (.bool twice) (.cons 14 (.pointer (some ⟨b55, 0, none⟩)) (.cons 15 (.pointer (some ⟨b74, 0, none⟩)) (.cons 16 (.bool want) .nil))))) Hl85 _
             have Hl85n : H80.next ≤ Hl85.next := hxl86.1
             iterate 2 refine aw_seq ?_
             refine aw_reg ?_
             refine st_op (ev_fieldAddr rfl fa40_0 (o' := 0) rfl) rfl rfl rfl ?_
             have h88 := Ext.blk hxl86 (by omega) hB82
             refine st_op (ev_load rfl (lvar_one one38 h88 rfl)) rfl rfl rfl ?_
             refine st_op (ev_lenSl rfl Tryz.underlying38) rfl rfl rfl ?_
             refine st_op (ev_int rfl rfl rfl) rfl rfl rfl ?_
             refine st_op (ev_move rfl) rfl rfl rfl ?_
             refine st_bool 96 rfl (fun hb89 => ?_) (fun hb89 => ?_)
             ·
              have hb89 : ¬ ((z70.length : Int) = 1) := by simpa using hb89
              exfalso; have q := congrArg List.length hq64; rw [List.length_singleton] at q; omega
             ·
              have hb89 : ((z70.length : Int) = 1) := by simpa using hb89
              refine st_op (ev_fieldAddr rfl fa40_0 (o' := 0) rfl) rfl rfl rfl ?_
              refine st_op (ev_load rfl (lvar_one one38 h88 rfl)) rfl rfl rfl ?_
              have hx91 : Ext H59 Hl85 := (Ext.trans (Ext.then hx79 hf84 (fun q hq e => by omega)) hxl86)
              have h90 := My.ext hm63 hx91
              have hi92 : 0 ≤ (0 : Int) := by omega
              have hi93 : (0 : Int) < ((z70.length : Nat) : Int) := by omega
              obtain ⟨x94, hx95⟩ : ∃ e, z70[0]? = some e := ⟨_, List.getElem?_eq_getElem (by omega)⟩
              have h97 := Each.ext hE66 hx91
              have hm96 : My H53 Hl85 x94.esA x94.esc 4 (x94.es.map Entry.cells) := Each.get h97 hx95
              have x94o := List.mem_singleton.1 (hq64 ▸ List.mem_of_getElem? hx95); have x94k := congrArg MsgC.kind x94o; have x94t := congrArg MsgC.to_ x94o; have x94y := congrArg MsgC.yes x94o; simp only [Spec.plainM] at x94k x94t x94y
              refine st_op (ev_at rfl rfl (My.row h90) (getMap MsgC.cells hx95) (by first | rfl | omega | simp) hi92 hi93 el38) rfl rfl rfl ?_
              refine st_op (ev_atF rfl (My.row h90) (getMap MsgC.cells hx95) fa26_0 rfl) rfl rfl rfl ?_
              refine st_op (ev_atL rfl (My.row h90) (getMap MsgC.cells hx95) one3 rfl) rfl rfl rfl ?_
              refine st_op (ev_int rfl rfl rfl) rfl rfl rfl ?_
              refine st_op (ev_pickF rfl rfl) rfl rfl rfl ?_
              refine st_op (ev_move rfl) rfl rfl rfl ?_
              refine st_bool 104 rfl (fun hb98 => ?_) (fun hb98 => ?_)
              ·
               have hb98 : ¬ (x94.kind = 2) := by simpa using hb98
               exfalso; omega
              ·
               have hb98 : (x94.kind = 2) := by simpa using hb98
               refine st_op (ev_fieldAddr rfl fa40_0 (o' := 0) rfl) rfl rfl rfl ?_
               refine st_op (ev_load rfl (lvar_one one38 h88 rfl)) rfl rfl rfl ?_
               have hi99 : 0 ≤ (0 : Int) := by omega
               have hi100 : (0 : Int) < ((z70.length : Nat) : Int) := by omega
               refine st_op (ev_at rfl rfl (My.row h90) (getMap MsgC.cells hx95) (by first | rfl | omega | simp) hi99 hi100 el38) rfl rfl rfl ?_
               refine st_op (ev_atF rfl (My.row h90) (getMap MsgC.cells hx95) fa26_7 rfl) rfl rfl rfl ?_
               refine st_op (ev_atL rfl (My.row h90) (getMap MsgC.cells hx95) one4 rfl) rfl rfl rfl ?_
               refine st_op (ev_move rfl) rfl rfl rfl ?_
               refine st_op (ev_neBool isbool4 rfl rfl) rfl rfl rfl ?_
               refine st_op (ev_pickF rfl rfl) rfl rfl rfl ?_
               refine st_op (ev_move rfl) rfl rfl rfl ?_
               refine st_bool 113 rfl (fun hb101 => ?_) (fun hb101 => ?_)
               ·
                exact absurd hb101 (by rw [x94y, hw, Spec.yesF, hn1]; simp)
               ·
                have hb101 : (x94.yes = want) := by simpa using hb101
                refine st_op (ev_fieldAddr rfl fa40_0 (o' := 0) rfl) rfl rfl rfl ?_
                refine st_op (ev_load rfl (lvar_one one38 h88 rfl)) rfl rfl rfl ?_
                have hi102 : 0 ≤ (0 : Int) := by omega
                have hi103 : (0 : Int) < ((z70.length : Nat) : Int) := by omega
                refine st_op (ev_at rfl rfl (My.row h90) (getMap MsgC.cells hx95) (by first | rfl | omega | simp) hi102 hi103 el38) rfl rfl rfl ?_
                refine st_op (ev_atF rfl (My.row h90) (getMap MsgC.cells hx95) fa26_2 rfl) rfl rfl rfl ?_
                refine st_op (ev_atL rfl (My.row h90) (getMap MsgC.cells hx95) one3 rfl) rfl rfl rfl ?_
                refine st_op (ev_int rfl rfl rfl) rfl rfl rfl ?_
                refine st_op (ev_pickF rfl rfl) rfl rfl rfl ?_
                refine st_op (ev_move rfl) rfl rfl rfl ?_
                refine st_bool 121 rfl (fun hb104 => ?_) (fun hb104 => ?_)
                ·
                 have hb104 : ¬ (x94.to_ = 2) := by simpa using hb104
                 exfalso; omega
                ·
                 have hb104 : (x94.to_ = 2) := by simpa using hb104
                 refine st_op (ev_move rfl) rfl rfl rfl ?_
                 refine st_call rfl rfl rfl ent16 rfl rfl rfl ?_
                 have hx106 : Ext H46 Hl85 := (Ext.trans (Ext.then (Ext.trans (Ext.then hx54 hx60 (fun q hq e => by omega)) hx79) hf84 (fun q hq e => by omega)) hxl86)
                 have h105 := My.ext hm50 hx106
                 have h107 := Ext.blk hx106 (by omega) b51B
                 have hm108 : My Hl85 Hl85 none 0 13 (([] : List MsgC).map MsgC.cells) := .nil
                 have h109 := Ext.blk hx91 (by omega) hB67
                 obtain ⟨_, H111, hs110, hs110v, hx112⟩ := raft_Hard_spec Hl85 (1 : Int) ⟨by omega, by omega⟩ (4 : Int) z72 (0 : Int) ⟨by omega, by omega⟩ (0 : Int) (⟨#[49, 50, 51]⟩ : ByteArray) (by decide) (⟨#[]⟩ : ByteArray) A48 l c49 (My.row h105) (My.capF h105 (by omega)) (by omega) b51 (by omega) h107 (by assumption) (0 : Int) (0 : Int) (0 : Int) z73   Hl85 none ([] : List MsgC) 0 hm108 (by omega) (by first | omega | (simp only [List.length_append, List.length_cons, List.length_nil, List.length_map, List.length_set, List.length_replicate, Spec.bytesOf_length]; omega) | (simp; omega)) Hl85 (Each.nil (S := MsgC.sub) (H0 := Hl85) (H := Hl85)) (by omega) false (0 : Int) false b55 (by omega) h109 (by omega)
                 rw [hs110v] at hs110; clear hs110v
                 refine ⟨_, H111, hs110, ?_⟩
                 have H111n : Hl85.next ≤ H111.next := hx112.1
                 refine st_op (ev_fieldF fd35_0 rfl rfl) rfl rfl rfl ?_
                 refine st_op (ev_int rfl rfl rfl) rfl rfl rfl ?_
                 refine st_op (ev_pickF rfl rfl) rfl rfl rfl ?_
                 try show aw _ _ _ _ _ _
                 by_cases hc113 : ((4 : Int) != 4) = true
                 ·
                  refine aw_condT hc113 rfl ?_
                  try show aw _ _ _ _ _ _
                  have hc113 : ¬ ((4 : Int) = 4) := by simpa using hc113
                  refine aw_seq ?_
                  refine aw_reg ?_
                  refine st_op (ev_assign rfl) rfl rfl rfl ?_
                  try show aw _ _ _ _ _ _
                  refine aw_ret ?_
                  have hx114 : Ext H H111 := (Ext.trans (Ext.trans (Ext.then (Ext.trans (Ext.then (Ext.trans (Ext.trans (Ext.trans (Ext.trans hxl16 hxl36) hxl40) hx47) hx54) hx60 (fun q hq e => by omega)) hx79) hf84 (fun q hq e => by omega)) hxl86) hx112)
                  have hres : true = false := by simp_all
                  exact ⟨.bool false, rfl, by first | (rw [hres]; done) | rw [← hres], hx114⟩
                 ·
                  rw [Bool.not_eq_true] at hc113; refine aw_condF hc113 rfl ?_
                  try show aw _ _ _ _ _ _
                  have hc113 : ((4 : Int) = 4) := by simpa using hc113
                  refine aw_skip ?_
                  try show aw _ _ _ _ _ _
                  refine aw_seq ?_
                  refine aw_reg ?_
                  refine st_op (ev_assign rfl) rfl rfl rfl ?_
                  try show aw _ _ _ _ _ _
                  iterate 2 refine aw_seq ?_
                  refine aw_reg ?_
                  refine st_op (ev_move rfl) rfl rfl rfl ?_
                  try show aw _ _ _ _ _ _
                  by_cases hc115 : twice = true
                  ·
                   refine aw_condT hc115 rfl ?_
                   try show aw _ _ _ _ _ _
                   refine aw_reg ?_
                   refine st_op (ev_assign rfl) rfl rfl rfl ?_
                   try show aw _ _ _ _ _ _
                   refine aw_seq ?_
                   refine aw_reg ?_
                   iterate 2 refine st_op (ev_move rfl) rfl rfl rfl ?_
                   refine st_op (ev_build zero26 pl26 (parts := [(0, .int .i64 1), (1, .int .i64 2), (2, .int .i64 1), (3, .int .i64 4), (4, .int .i64 50), (5, .int .i64 4)]) rfl (cs := [.int .i64 1, .int .i64 2, .int .i64 1, .int .i64 4, .int .i64 50, .int .i64 4, .int .i64 0, .bool false, .slice none 0 0, .int .i64 0, .int .i64 0, .string (⟨#[]⟩), .string (⟨#[]⟩)]) rfl) rfl rfl rfl ?_
                   refine st_call rfl rfl rfl ent15 rfl rfl rfl ?_
                   have h116 := My.ext h105 hx112
                   have h117 := Ext.blk hx112 (by omega) h107
                   have h118 := Ext.blk hx112 (by omega) h109
                   obtain ⟨_, H120, hs119, A122, c123, hs119v, hm124, hE127, hB128, hq125, hq126, hx121⟩ := raft_StepEq_spec H111 (1 : Int) ⟨by omega, by omega⟩ (4 : Int) z72 (0 : Int) ⟨by omega, by omega⟩ (0 : Int) (⟨#[49, 50, 51]⟩ : ByteArray) (by decide) (⟨#[]⟩ : ByteArray) A48 l c49 (My.row h116) (My.capF h116 (by first | omega | (simp only [List.length_append, List.length_cons, List.length_nil, List.length_map, List.length_set, List.length_replicate, Spec.bytesOf_length]; omega) | (simp; omega))) (by first | omega | (simp only [List.length_append, List.length_cons, List.length_nil, List.length_map, List.length_set, List.length_replicate, Spec.bytesOf_length]; omega) | (simp; omega)) b51 (by omega) h117 (by assumption) (0 : Int) (0 : Int) (0 : Int) z73    false (0 : Int) false b55 (by omega) h118 (by omega) (1 : Int) (2 : Int) (1 : Int) (4 : Int) (50 : Int) (4 : Int) (0 : Int) false none ([] : List Entry) 0 Row.nil (Nat.le_refl 0) (Nat.zero_le _) (0 : Int) (0 : Int) (⟨#[]⟩ : ByteArray) (by decide) (⟨#[]⟩ : ByteArray) (by decide) (by first | assumption | exact Spec.may_vote (by omega) (by omega) (by omega)) (by omega)
                   rw [hs119v] at hs119; clear hs119v
                   generalize hR130 : (Spec.voteF (1 : Int) (4 : Int) z72 z73 false (0 : Int) (0 : Int) l (2 : Int) (50 : Int) (4 : Int)) = r129 at hs119 hm124 hE127 hB128 hq125 hq126
                   obtain ⟨z131, z132, z133, z134⟩ := r129
                   dsimp only at hs119 hm124 hE127 hB128 hq125 hq126
                   refine ⟨_, H120, hs119, ?_⟩
                   have H120n : H111.next ≤ H120.next := hx121.1
                   have hn2 : Spec.newerF 0 0 l 50 4 = true := by rw [hl, Spec.votesL_newer, hta2]; exact decide_eq_true (.inl (by omega))
                   obtain ⟨b135, H136, he137, b135e, H136n_, hB139, f138⟩ := mem_alloc H120 zero40
                   refine st_op (he137 _ _ _ _ _ _ _) rfl rfl rfl ?_
                   have hx140 : Ext H120 H136 := Ext.new (by omega) H136n_ f138
                   have H136n : H120.next ≤ H136.next := hx140.1
                   obtain ⟨H141, he142, H141n_, hB143, f144⟩ := mem_store (v := .agg #[.slice A122 z131.length c123, .bool z132, .int .i64 (0 : Int), .bool false]) (o := 0) (cs' := [.slice A122 z131.length c123, .bool z132, .int .i64 (0 : Int), .bool false]) 4 rfl rfl size40 hB139 rfl rfl rfl
                   refine st_op0 (he142 _ _ _ _ _ _ _ _ _ rfl rfl) rfl rfl ?_
                   have hf145 : Fr (fun q => q = b135) H136 H141 := Fr.write H141n_ f144
                   have H141n : H136.next ≤ H141.next := hf145.1
                   try show aw _ _ _ _ _ _
                   refine aw_seq ?_
                   refine aw_reg ?_
                   refine st_op (ev_fieldAddr rfl fa40_0 (o' := 0) rfl) rfl rfl rfl ?_
                   refine st_op (ev_load rfl (lvar_one one38 hB143 rfl)) rfl rfl rfl ?_
                   refine st_op (ev_lenSl rfl Tryz.underlying38) rfl rfl rfl ?_
                   refine st_op (ev_int rfl rfl rfl) rfl rfl rfl ?_
                   refine st_op (ev_move rfl) rfl rfl rfl ?_
                   refine st_bool 136 rfl (fun hb146 => ?_) (fun hb146 => ?_)
                   ·
                    have hb146 := eq_of_beq hb146
                    refine st_op (ev_fieldAddr rfl fa40_0 (o' := 0) rfl) rfl rfl rfl ?_
                    refine st_op (ev_load rfl (lvar_one one38 hB143 rfl)) rfl rfl rfl ?_
                    have hx148 : Ext H120 H141 := (Ext.then hx140 hf145 (fun q hq e => by omega))
                    have h147 := My.ext hm124 hx148
                    have hi149 : 0 ≤ (0 : Int) := by omega
                    have hi150 : (0 : Int) < ((z131.length : Nat) : Int) := by first | omega | (simp only [List.length_append, List.length_cons, List.length_nil, List.length_map, List.length_set, List.length_replicate, Spec.bytesOf_length]; omega) | (simp; omega)
                    obtain ⟨x151, hx152⟩ : ∃ e, z131[0]? = some e := ⟨_, List.getElem?_eq_getElem (by first | omega | (simp only [List.length_append, List.length_cons, List.length_nil, List.length_map, List.length_set, List.length_replicate, Spec.bytesOf_length]; omega) | (simp; omega))⟩
                    have h154 := Each.ext hE127 hx148
                    have hm153 : My H111 H141 x151.esA x151.esc 4 (x151.es.map Entry.cells) := Each.get h154 hx152
                    have x151o := List.mem_singleton.1 (hq125 ▸ List.mem_of_getElem? hx152); have x151k := congrArg MsgC.kind x151o; have x151t := congrArg MsgC.to_ x151o; have x151y := congrArg MsgC.yes x151o; simp only [Spec.plainM] at x151k x151t x151y
                    refine st_op (ev_at rfl rfl (My.row h147) (getMap MsgC.cells hx152) (by first | rfl | omega | simp) hi149 hi150 el38) rfl rfl rfl ?_
                    refine st_op (ev_atF rfl (My.row h147) (getMap MsgC.cells hx152) fa26_7 rfl) rfl rfl rfl ?_
                    refine st_op (ev_atL rfl (My.row h147) (getMap MsgC.cells hx152) one4 rfl) rfl rfl rfl ?_
                    refine st_op (ev_move rfl) rfl rfl rfl ?_
                    refine st_op (ev_not rfl) rfl rfl rfl ?_
                    refine st_op (ev_move rfl) rfl rfl rfl ?_
                    refine st_bool 144 rfl (fun hb155 => ?_) (fun hb155 => ?_)
                    ·
                     replace hb155 : want = false := by rw [Bool.not_eq_true'] at hb155; exact hb155
                     refine st_skip rfl rfl rfl ?_
                     refine st_op (ev_pickT rfl rfl) rfl rfl rfl ?_
                     refine st_op (ev_eqBool isbool4 rfl rfl) rfl rfl rfl ?_
                     refine st_op (ev_pickT rfl rfl) rfl rfl rfl ?_
                     refine st_op (ev_assign rfl) rfl rfl rfl ?_
                     try show aw _ _ _ _ _ _
                     refine aw_ret ?_
                     have hx156 : Ext H H141 := (Ext.then (Ext.trans (Ext.then (Ext.trans (Ext.trans (Ext.then (Ext.trans (Ext.then (Ext.trans (Ext.trans (Ext.trans (Ext.trans hxl16 hxl36) hxl40) hx47) hx54) hx60 (fun q hq e => by omega)) hx79) hf84 (fun q hq e => by omega)) hxl86) hx112) hx121 (fun q hq e => by omega)) hx140) hf145 (fun q hq e => by omega))
                     have hres : true = (x151.yes == true) := by have q : x151.yes = (!want || twice) := (by rw [x151y, Spec.yesF, hn2, Bool.and_true, hq65, Spec.yesF, hn1, ← hw]; cases want <;> simp_all); simp_all
                     exact ⟨.bool (x151.yes == true), rfl, by first | (rw [hres]; done) | rw [← hres], hx156⟩
                    ·
                     replace hb155 : want = true := by rw [Bool.not_eq_false'] at hb155; exact hb155
                     refine st_op (ev_move rfl) rfl rfl rfl ?_
                     refine st_op (ev_pickF rfl rfl) rfl rfl rfl ?_
                     refine st_op (ev_eqBool isbool4 rfl rfl) rfl rfl rfl ?_
                     refine st_op (ev_pickT rfl rfl) rfl rfl rfl ?_
                     refine st_op (ev_assign rfl) rfl rfl rfl ?_
                     try show aw _ _ _ _ _ _
                     refine aw_ret ?_
                     have hx157 : Ext H H141 := (Ext.then (Ext.trans (Ext.then (Ext.trans (Ext.trans (Ext.then (Ext.trans (Ext.then (Ext.trans (Ext.trans (Ext.trans (Ext.trans hxl16 hxl36) hxl40) hx47) hx54) hx60 (fun q hq e => by omega)) hx79) hf84 (fun q hq e => by omega)) hxl86) hx112) hx121 (fun q hq e => by omega)) hx140) hf145 (fun q hq e => by omega))
                     have hres : true = (x151.yes == twice) := by have q : x151.yes = (!want || twice) := (by rw [x151y, Spec.yesF, hn2, Bool.and_true, hq65, Spec.yesF, hn1, ← hw]; cases want <;> simp_all); simp_all
                     exact ⟨.bool (x151.yes == twice), rfl, by first | (rw [hres]; done) | rw [← hres], hx157⟩
                   ·
                    have hb146 := ne_of_beq_false hb146
                    exfalso; have q := congrArg List.length hq125; rw [List.length_singleton] at q; omega
                  ·
                   rw [Bool.not_eq_true] at hc115; refine aw_condF hc115 rfl ?_
                   try show aw _ _ _ _ _ _
                   refine aw_skip ?_
                   try show aw _ _ _ _ _ _
                   refine aw_seq ?_
                   refine aw_reg ?_
                   iterate 2 refine st_op (ev_move rfl) rfl rfl rfl ?_
                   refine st_op (ev_build zero26 pl26 (parts := [(0, .int .i64 1), (1, .int .i64 3), (2, .int .i64 1), (3, .int .i64 4), (4, .int .i64 50), (5, .int .i64 4)]) rfl (cs := [.int .i64 1, .int .i64 3, .int .i64 1, .int .i64 4, .int .i64 50, .int .i64 4, .int .i64 0, .bool false, .slice none 0 0, .int .i64 0, .int .i64 0, .string (⟨#[]⟩), .string (⟨#[]⟩)]) rfl) rfl rfl rfl ?_
                   refine st_call rfl rfl rfl ent15 rfl rfl rfl ?_
                   have h158 := My.ext h105 hx112
                   have h159 := Ext.blk hx112 (by omega) h107
                   have h160 := Ext.blk hx112 (by omega) h109
                   obtain ⟨_, H162, hs161, A164, c165, hs161v, hm166, hE169, hB170, hq167, hq168, hx163⟩ := raft_StepEq_spec H111 (1 : Int) ⟨by omega, by omega⟩ (4 : Int) z72 (0 : Int) ⟨by omega, by omega⟩ (0 : Int) (⟨#[49, 50, 51]⟩ : ByteArray) (by decide) (⟨#[]⟩ : ByteArray) A48 l c49 (My.row h158) (My.capF h158 (by first | omega | (simp only [List.length_append, List.length_cons, List.length_nil, List.length_map, List.length_set, List.length_replicate, Spec.bytesOf_length]; omega) | (simp; omega))) (by first | omega | (simp only [List.length_append, List.length_cons, List.length_nil, List.length_map, List.length_set, List.length_replicate, Spec.bytesOf_length]; omega) | (simp; omega)) b51 (by omega) h159 (by assumption) (0 : Int) (0 : Int) (0 : Int) z73    false (0 : Int) false b55 (by omega) h160 (by omega) (1 : Int) (3 : Int) (1 : Int) (4 : Int) (50 : Int) (4 : Int) (0 : Int) false none ([] : List Entry) 0 Row.nil (Nat.le_refl 0) (Nat.zero_le _) (0 : Int) (0 : Int) (⟨#[]⟩ : ByteArray) (by decide) (⟨#[]⟩ : ByteArray) (by decide) (by first | assumption | exact Spec.may_vote (by omega) (by omega) (by omega)) (by omega)
                   rw [hs161v] at hs161; clear hs161v
                   generalize hR172 : (Spec.voteF (1 : Int) (4 : Int) z72 z73 false (0 : Int) (0 : Int) l (3 : Int) (50 : Int) (4 : Int)) = r171 at hs161 hm166 hE169 hB170 hq167 hq168
                   obtain ⟨z173, z174, z175, z176⟩ := r171
                   dsimp only at hs161 hm166 hE169 hB170 hq167 hq168
                   refine ⟨_, H162, hs161, ?_⟩
                   have H162n : H111.next ≤ H162.next := hx163.1
                   have hn2 : Spec.newerF 0 0 l 50 4 = true := by rw [hl, Spec.votesL_newer, hta2]; exact decide_eq_true (.inl (by omega))
                   obtain ⟨b177, H178, he179, b177e, H178n_, hB181, f180⟩ := mem_alloc H162 zero40
                   refine st_op (he179 _ _ _ _ _ _ _) rfl rfl rfl ?_
                   have hx182 : Ext H162 H178 := Ext.new (by omega) H178n_ f180
                   have H178n : H162.next ≤ H178.next := hx182.1
                   obtain ⟨H183, he184, H183n_, hB185, f186⟩ := mem_store (v := .agg #[.slice A164 z173.length c165, .bool z174, .int .i64 (0 : Int), .bool false]) (o := 0) (cs' := [.slice A164 z173.length c165, .bool z174, .int .i64 (0 : Int), .bool false]) 4 rfl rfl size40 hB181 rfl rfl rfl
                   refine st_op0 (he184 _ _ _ _ _ _ _ _ _ rfl rfl) rfl rfl ?_
                   have hf187 : Fr (fun q => q = b177) H178 H183 := Fr.write H183n_ f186
                   have H183n : H178.next ≤ H183.next := hf187.1
                   try show aw _ _ _ _ _ _
                   refine aw_seq ?_
                   refine aw_reg ?_
                   refine st_op (ev_fieldAddr rfl fa40_0 (o' := 0) rfl) rfl rfl rfl ?_
                   refine st_op (ev_load rfl (lvar_one one38 hB185 rfl)) rfl rfl rfl ?_
                   refine st_op (ev_lenSl rfl Tryz.underlying38) rfl rfl rfl ?_
                   refine st_op (ev_int rfl rfl rfl) rfl rfl rfl ?_
                   refine st_op (ev_move rfl) rfl rfl rfl ?_
                   refine st_bool 136 rfl (fun hb188 => ?_) (fun hb188 => ?_)
                   ·
                    have hb188 := eq_of_beq hb188
                    refine st_op (ev_fieldAddr rfl fa40_0 (o' := 0) rfl) rfl rfl rfl ?_
                    refine st_op (ev_load rfl (lvar_one one38 hB185 rfl)) rfl rfl rfl ?_
                    have hx190 : Ext H162 H183 := (Ext.then hx182 hf187 (fun q hq e => by omega))
                    have h189 := My.ext hm166 hx190
                    have hi191 : 0 ≤ (0 : Int) := by omega
                    have hi192 : (0 : Int) < ((z173.length : Nat) : Int) := by first | omega | (simp only [List.length_append, List.length_cons, List.length_nil, List.length_map, List.length_set, List.length_replicate, Spec.bytesOf_length]; omega) | (simp; omega)
                    obtain ⟨x193, hx194⟩ : ∃ e, z173[0]? = some e := ⟨_, List.getElem?_eq_getElem (by first | omega | (simp only [List.length_append, List.length_cons, List.length_nil, List.length_map, List.length_set, List.length_replicate, Spec.bytesOf_length]; omega) | (simp; omega))⟩
                    have h196 := Each.ext hE169 hx190
                    have hm195 : My H111 H183 x193.esA x193.esc 4 (x193.es.map Entry.cells) := Each.get h196 hx194
                    have x193o := List.mem_singleton.1 (hq167 ▸ List.mem_of_getElem? hx194); have x193k := congrArg MsgC.kind x193o; have x193t := congrArg MsgC.to_ x193o; have x193y := congrArg MsgC.yes x193o; simp only [Spec.plainM] at x193k x193t x193y
                    refine st_op (ev_at rfl rfl (My.row h189) (getMap MsgC.cells hx194) (by first | rfl | omega | simp) hi191 hi192 el38) rfl rfl rfl ?_
                    refine st_op (ev_atF rfl (My.row h189) (getMap MsgC.cells hx194) fa26_7 rfl) rfl rfl rfl ?_
                    refine st_op (ev_atL rfl (My.row h189) (getMap MsgC.cells hx194) one4 rfl) rfl rfl rfl ?_
                    refine st_op (ev_move rfl) rfl rfl rfl ?_
                    refine st_op (ev_not rfl) rfl rfl rfl ?_
                    refine st_op (ev_move rfl) rfl rfl rfl ?_
                    refine st_bool 144 rfl (fun hb197 => ?_) (fun hb197 => ?_)
                    ·
                     replace hb197 : want = false := by rw [Bool.not_eq_true'] at hb197; exact hb197
                     refine st_skip rfl rfl rfl ?_
                     refine st_op (ev_pickT rfl rfl) rfl rfl rfl ?_
                     refine st_op (ev_eqBool isbool4 rfl rfl) rfl rfl rfl ?_
                     refine st_op (ev_pickT rfl rfl) rfl rfl rfl ?_
                     refine st_op (ev_assign rfl) rfl rfl rfl ?_
                     try show aw _ _ _ _ _ _
                     refine aw_ret ?_
                     have hx198 : Ext H H183 := (Ext.then (Ext.trans (Ext.then (Ext.trans (Ext.trans (Ext.then (Ext.trans (Ext.then (Ext.trans (Ext.trans (Ext.trans (Ext.trans hxl16 hxl36) hxl40) hx47) hx54) hx60 (fun q hq e => by omega)) hx79) hf84 (fun q hq e => by omega)) hxl86) hx112) hx163 (fun q hq e => by omega)) hx182) hf187 (fun q hq e => by omega))
                     have hres : true = (x193.yes == true) := by have q : x193.yes = (!want || twice) := (by rw [x193y, Spec.yesF, hn2, Bool.and_true, hq65, Spec.yesF, hn1, ← hw]; cases want <;> simp_all); simp_all
                     exact ⟨.bool (x193.yes == true), rfl, by first | (rw [hres]; done) | rw [← hres], hx198⟩
                    ·
                     replace hb197 : want = true := by rw [Bool.not_eq_false'] at hb197; exact hb197
                     refine st_op (ev_move rfl) rfl rfl rfl ?_
                     refine st_op (ev_pickF rfl rfl) rfl rfl rfl ?_
                     refine st_op (ev_eqBool isbool4 rfl rfl) rfl rfl rfl ?_
                     refine st_op (ev_pickT rfl rfl) rfl rfl rfl ?_
                     refine st_op (ev_assign rfl) rfl rfl rfl ?_
                     try show aw _ _ _ _ _ _
                     refine aw_ret ?_
                     have hx199 : Ext H H183 := (Ext.then (Ext.trans (Ext.then (Ext.trans (Ext.trans (Ext.then (Ext.trans (Ext.then (Ext.trans (Ext.trans (Ext.trans (Ext.trans hxl16 hxl36) hxl40) hx47) hx54) hx60 (fun q hq e => by omega)) hx79) hf84 (fun q hq e => by omega)) hxl86) hx112) hx163 (fun q hq e => by omega)) hx182) hf187 (fun q hq e => by omega))
                     have hres : true = (x193.yes == twice) := by have q : x193.yes = (!want || twice) := (by rw [x193y, Spec.yesF, hn2, Bool.and_true, hq65, Spec.yesF, hn1, ← hw]; cases want <;> simp_all); simp_all
                     exact ⟨.bool (x193.yes == twice), rfl, by first | (rw [hres]; done) | rw [← hres], hx199⟩
                   ·
                    have hb188 := ne_of_beq_false hb188
                    exfalso; have q := congrArg List.length hq167; rw [List.length_singleton] at q; omega
            ·
             skip
             refine aw_reg ?_
             iterate 2 refine st_op (ev_move rfl) rfl rfl rfl ?_
             refine st_op (ev_int rfl rfl rfl) rfl rfl rfl ?_
             refine st_op (ev_move rfl) rfl rfl rfl ?_
             refine st_bool 82 rfl (fun hb200 => ?_) (fun hb200 => ?_)
             ·
              have hb200 := of_decide_eq_true hb200
              iterate 8 refine st_skip rfl rfl rfl ?_
              refine st_op (ev_pickT rfl rfl) rfl rfl rfl ?_
              refine st_op (ev_assign rfl) rfl rfl rfl ?_
              try show aw _ _ _ _ _ _
              refine aw_keep [4, 14, 15, 16] (l' := (.cons 4 (.bool twice) (.cons 14 (.pointer (some ⟨b55, 0, none⟩)) (.cons 15 (.pointer (some ⟨b74, 0, none⟩)) (.cons 16 (.bool true) .nil))))) (by repeat (first | exact Up.done | refine Up.then ?_ | refine Up.inBlock ?_)) rfl ?_
              exact hJ87 (true, H80) ⟨(show true = decide (tb1 > ta1 ∨ tb1 = ta1 ∧ pb ≥ pa) from (by first | exact decide_eq_decide.2 (by omega) | exact (decide_eq_false (by omega)).symm | exact (decide_eq_true (by omega)).symm)), (show Ext H80 H80 from (Ext.refl H80))⟩
             ·
              have hb200 := of_decide_eq_false hb200
              iterate 2 refine st_op (ev_move rfl) rfl rfl rfl ?_
              refine st_op (ev_int rfl rfl rfl) rfl rfl rfl ?_
              refine st_op (ev_move rfl) rfl rfl rfl ?_
              refine st_bool 86 rfl (fun hb201 => ?_) (fun hb201 => ?_)
              ·
               have hb201 := eq_of_beq hb201
               iterate 2 refine st_op (ev_move rfl) rfl rfl rfl ?_
               refine st_op (ev_int rfl rfl rfl) rfl rfl rfl ?_
               refine st_op (ev_pickT rfl rfl) rfl rfl rfl ?_
               refine st_op (ev_pickF rfl rfl) rfl rfl rfl ?_
               refine st_op (ev_assign rfl) rfl rfl rfl ?_
               try show aw _ _ _ _ _ _
               refine aw_keep [4, 14, 15, 16] (l' := (.cons 4 (.bool twice) (.cons 14 (.pointer (some ⟨b55, 0, none⟩)) (.cons 15 (.pointer (some ⟨b74, 0, none⟩)) (.cons 16 (.bool (decide (pb ≥ pa))) .nil))))) (by repeat (first | exact Up.done | refine Up.then ?_ | refine Up.inBlock ?_)) rfl ?_
               exact hJ87 (decide (pb ≥ pa), H80) ⟨(show (decide (pb ≥ pa)) = decide (tb1 > ta1 ∨ tb1 = ta1 ∧ pb ≥ pa) from (by first | exact decide_eq_decide.2 (by omega) | exact (decide_eq_false (by omega)).symm | exact (decide_eq_true (by omega)).symm)), (show Ext H80 H80 from (Ext.refl H80))⟩
              ·
               have hb201 := ne_of_beq_false hb201
               iterate 3 refine st_skip rfl rfl rfl ?_
               iterate 2 refine st_op (ev_pickF rfl rfl) rfl rfl rfl ?_
               refine st_op (ev_assign rfl) rfl rfl rfl ?_
               try show aw _ _ _ _ _ _
               refine aw_keep [4, 14, 15, 16] (l' := (.cons 4 (.bool twice) (.cons 14 (.pointer (some ⟨b55, 0, none⟩)) (.cons 15 (.pointer (some ⟨b74, 0, none⟩)) (.cons 16 (.bool false) .nil))))) (by repeat (first | exact Up.done | refine Up.then ?_ | refine Up.inBlock ?_)) rfl ?_
               exact hJ87 (false, H80) ⟨(show false = decide (tb1 > ta1 ∨ tb1 = ta1 ∧ pb ≥ pa) from (by first | exact decide_eq_decide.2 (by omega) | exact (decide_eq_false (by omega)).symm | exact (decide_eq_true (by omega)).symm)), (show Ext H80 H80 from (Ext.refl H80))⟩
           ·
            skip
            refine aw_seq ?_
            refine aw_reg ?_
            refine st_op (ev_move rfl) rfl rfl rfl ?_
            refine st_op (ev_int rfl rfl rfl) rfl rfl rfl ?_
            try show aw _ _ _ _ _ _
            by_cases hc202 : (pb == 0) = true
            ·
             refine aw_condT hc202 rfl ?_
             try show aw _ _ _ _ _ _
             have hc202 := eq_of_beq hc202
             refine aw_reg ?_
             refine st_op (ev_assign rfl) rfl rfl rfl ?_
             try show aw _ _ _ _ _ _
             refine aw_keep [0, 1, 2, 3, 4, 12] (l' := (.cons 0 (.int .i64 pa) (.cons 1 (.int .i64 pb) (.cons 2 (.int .i64 ta1) (.cons 3 (.int .i64 0) (.cons 4 (.bool twice) (.cons 12 (.slice A l.length cp) .nil))))))) (by repeat (first | exact Up.done | refine Up.then ?_ | refine Up.inBlock ?_)) rfl ?_
             exact hJ41 (0, Hl34) ⟨(show 0 ≤ 0 ∧ 0 ≤ 3 from ⟨by omega, by omega⟩), (show Ext Hl34 Hl34 from (Ext.refl Hl34))⟩
            ·
             rw [Bool.not_eq_true] at hc202; refine aw_condF hc202 rfl ?_
             try show aw _ _ _ _ _ _
             have hc202 := ne_of_beq_false hc202
             refine aw_skip ?_
             try show aw _ _ _ _ _ _
             refine aw_keep [0, 1, 2, 3, 4, 12] (l' := (.cons 0 (.int .i64 pa) (.cons 1 (.int .i64 pb) (.cons 2 (.int .i64 ta1) (.cons 3 (.int .i64 tb) (.cons 4 (.bool twice) (.cons 12 (.slice A l.length cp) .nil))))))) (by repeat (first | exact Up.done | refine Up.then ?_ | refine Up.inBlock ?_)) rfl ?_
             exact hJ41 (tb, Hl34) ⟨(show 0 ≤ tb ∧ tb ≤ 3 from ⟨by omega, by omega⟩), (show Ext Hl34 Hl34 from (Ext.refl Hl34))⟩
          ·
           skip
           refine aw_seq ?_
           refine aw_reg ?_
           refine st_op (ev_move rfl) rfl rfl rfl ?_
           refine st_op (ev_int rfl rfl rfl) rfl rfl rfl ?_
           try show aw _ _ _ _ _ _
           by_cases hc203 : (pa == 0) = true
           ·
            refine aw_condT hc203 rfl ?_
            try show aw _ _ _ _ _ _
            have hc203 := eq_of_beq hc203
            refine aw_reg ?_
            refine st_op (ev_assign rfl) rfl rfl rfl ?_
            try show aw _ _ _ _ _ _
            refine aw_keep [0, 1, 2, 3, 4, 12] (l' := (.cons 0 (.int .i64 pa) (.cons 1 (.int .i64 pb) (.cons 2 (.int .i64 0) (.cons 3 (.int .i64 tb) (.cons 4 (.bool twice) (.cons 12 (.slice A l.length cp) .nil))))))) (by repeat (first | exact Up.done | refine Up.then ?_ | refine Up.inBlock ?_)) rfl ?_
            exact hJ37 (0, Hl12) ⟨(show 0 = if pa = 0 then 0 else ta from (by first | rw [if_pos (by omega)] | rw [if_neg (by omega)])), (show 0 ≤ 0 ∧ 0 ≤ 3 from ⟨by omega, by omega⟩), (show Ext Hl12 Hl12 from (Ext.refl Hl12))⟩
           ·
            rw [Bool.not_eq_true] at hc203; refine aw_condF hc203 rfl ?_
            try show aw _ _ _ _ _ _
            have hc203 := ne_of_beq_false hc203
            refine aw_skip ?_
            try show aw _ _ _ _ _ _
            refine aw_keep [0, 1, 2, 3, 4, 12] (l' := (.cons 0 (.int .i64 pa) (.cons 1 (.int .i64 pb) (.cons 2 (.int .i64 ta) (.cons 3 (.int .i64 tb) (.cons 4 (.bool twice) (.cons 12 (.slice A l.length cp) .nil))))))) (by repeat (first | exact Up.done | refine Up.then ?_ | refine Up.inBlock ?_)) rfl ?_
            exact hJ37 (ta, Hl12) ⟨(show ta = if pa = 0 then 0 else ta from (by first | rw [if_pos (by omega)] | rw [if_neg (by omega)])), (show 0 ≤ ta ∧ ta ≤ 3 from ⟨by omega, by omega⟩), (show Ext Hl12 Hl12 from (Ext.refl Hl12))⟩

end Go.AM
