/- Part of a machine of its own for this claim: the program's code over memory without draws. -/
import Derived.Test.YtfodghhmglbapaaSAmXMsgB1
set_option linter.unusedVariables false
set_option linter.unusedSimpArgs false
set_option linter.unnecessarySimpa false
set_option linter.unusedVariables false
set_option linter.unusedSimpArgs false
set_option linter.unnecessarySimpa false
namespace Go.AM
open Go Go.Proofs
set_option maxHeartbeats 1600000 in
theorem msg_message_spec (H : Heap) (lA : Option Addr) (l : List Int) (lc : Nat) (hl : Row H lA lc 1 (l.map u8c)) (cl : l.length ≤ lc) (ll : l.length ≤ 274877906944) (bl : Spec.Bytes l) (bad : Bool) (p : Nat) (hp : p < H.next) (Bp : H.blk p = some ⟨[.slice lA l.length lc, .bool bad], 0, false, false⟩) : ∃ v H', Spec Try.prog 34 [.pointer (some ⟨p, 0, none⟩)] H v H' ∧ (∃ rA8 rc8, ∃ rA13 rc13, (v = .agg #[.int .i64 ((Spec.readT l bad).1), .int .i64 ((Spec.readT l bad).2.1), .int .i64 ((Spec.readT l bad).2.2.1), .int .i64 ((Spec.readT l bad).2.2.2.1), .int .i64 ((Spec.readT l bad).2.2.2.2.1), .int .i64 ((Spec.readT l bad).2.2.2.2.2.1), .int .i64 ((Spec.readT l bad).2.2.2.2.2.2.1), .bool ((Spec.readT l bad).2.2.2.2.2.2.2.1), .slice rA8 (((Spec.readT l bad).2.2.2.2.2.2.2.2.1).length) rc8, .int .i64 ((Spec.readT l bad).2.2.2.2.2.2.2.2.2.1), .int .i64 ((Spec.readT l bad).2.2.2.2.2.2.2.2.2.2.1), .string ((Spec.readT l bad).2.2.2.2.2.2.2.2.2.2.2.1), .string ((Spec.readT l bad).2.2.2.2.2.2.2.2.2.2.2.2.1)]) ∧ (My H H' rA8 rc8 4 (((Spec.readT l bad).2.2.2.2.2.2.2.2.1).map Entry.cells)) ∧ (Row H' rA13 rc13 1 (((Spec.readT l bad).2.2.2.2.2.2.2.2.2.2.2.2.2.1).map u8c)) ∧ (((Spec.readT l bad).2.2.2.2.2.2.2.2.2.2.2.2.2.1).length ≤ rc13) ∧ (H'.blk p = some ⟨[.slice rA13 (((Spec.readT l bad).2.2.2.2.2.2.2.2.2.2.2.2.2.1).length) rc13, .bool ((Spec.readT l bad).2.2.2.2.2.2.2.2.2.2.2.2.2.2)], 0, false, false⟩) ∧ (((Spec.readT l bad)).2.2.2.2.2.2.2.2.1.length ≤ 10) ∧ (((Spec.readT l bad)).2.2.2.2.2.2.2.2.2.2.2.1.size ≤ 1048576) ∧ (((Spec.readT l bad)).2.2.2.2.2.2.2.2.2.2.2.2.1.size ≤ 1048576) ∧ (Fr (fun q => q = p) H H')) := by
 refine spec_go1 E0_ok 99 (f := 34) Try.func34 rfl rfl rfl ?_
 refine aw_seq ?_
 refine aw_reg ?_
 obtain ⟨b1, H2, he3, b1e, H2n_, hB5, f4⟩ := mem_alloc H zero26
 refine st_op (he3 _ _ _ _ _ _ _) rfl rfl rfl ?_
 have hx6 : Ext H H2 := Ext.new (by omega) H2n_ f4
 have H2n : H.next ≤ H2.next := hx6.1
 try show aw _ _ _ _ _ _
 refine aw_seq ?_
 refine aw_reg ?_
 refine st_op (ev_move rfl) rfl rfl rfl ?_
 refine st_call rfl rfl rfl ent51 rfl rfl rfl ?_
 have h7 := Row.ext hl hx6
 have h8 := Ext.blk hx6 (by omega) Bp
 obtain ⟨_, H10, hs9, A12, c13, hs9v, hm14, hk18, hB19, hq15, hq16, hq17, hx11⟩ := msg_rnum_spec H2 lA l lc h7 cl (by omega) (by assumption) bad p (by omega) h8
 rw [hs9v] at hs9; clear hs9v
 generalize hR21 : (Spec.rdNm l bad) = r20 at hs9 hm14 hk18 hB19 hq15 hq16 hq17
 obtain ⟨z22, z23, z24⟩ := r20
 dsimp only at hs9 hm14 hk18 hB19 hq15 hq16 hq17
 refine ⟨_, H10, hs9, ?_⟩
 have H10n : H2.next ≤ H10.next := hx11.1
 refine st_op (ev_move rfl) rfl rfl rfl ?_
 refine st_call rfl rfl rfl ent51 rfl rfl rfl ?_
 obtain ⟨_, H26, hs25, A28, c29, hs25v, hm30, hk34, hB35, hq31, hq32, hq33, hx27⟩ := msg_rnum_spec H10 A12 z23 c13 hm14 hk18 (by omega) (by assumption) z24 p (by omega) hB19
 rw [hs25v] at hs25; clear hs25v
 generalize hR37 : (Spec.rdNm z23 z24) = r36 at hs25 hm30 hk34 hB35 hq31 hq32 hq33
 obtain ⟨z38, z39, z40⟩ := r36
 dsimp only at hs25 hm30 hk34 hB35 hq31 hq32 hq33
 refine ⟨_, H26, hs25, ?_⟩
 have H26n : H10.next ≤ H26.next := hx27.1
 refine st_op (ev_move rfl) rfl rfl rfl ?_
 refine st_call rfl rfl rfl ent51 rfl rfl rfl ?_
 obtain ⟨_, H42, hs41, A44, c45, hs41v, hm46, hk50, hB51, hq47, hq48, hq49, hx43⟩ := msg_rnum_spec H26 A28 z39 c29 hm30 hk34 (by omega) (by assumption) z40 p (by omega) hB35
 rw [hs41v] at hs41; clear hs41v
 generalize hR53 : (Spec.rdNm z39 z40) = r52 at hs41 hm46 hk50 hB51 hq47 hq48 hq49
 obtain ⟨z54, z55, z56⟩ := r52
 dsimp only at hs41 hm46 hk50 hB51 hq47 hq48 hq49
 refine ⟨_, H42, hs41, ?_⟩
 have H42n : H26.next ≤ H42.next := hx43.1
 refine st_op (ev_build zero26 pl26 (parts := [(0, .int .i64 z22), (1, .int .i64 z38), (2, .int .i64 z54)]) rfl (cs := [.int .i64 z22, .int .i64 z38, .int .i64 z54, .int .i64 0, .int .i64 0, .int .i64 0, .int .i64 0, .bool false, .slice none 0 0, .int .i64 0, .int .i64 0, .string (⟨#[]⟩), .string (⟨#[]⟩)]) rfl) rfl rfl rfl ?_
 obtain ⟨b57, H58, he59, b57e, H58n_, hB61, f60⟩ := mem_alloc H42 zero26
 refine st_op (he59 _ _ _ _ _ _ _) rfl rfl rfl ?_
 have hx62 : Ext H42 H58 := Ext.new (by omega) H58n_ f60
 have H58n : H42.next ≤ H58.next := hx62.1
 obtain ⟨H63, he64, H63n_, hB65, f66⟩ := mem_store (v := .agg #[.int .i64 z22, .int .i64 z38, .int .i64 z54, .int .i64 0, .int .i64 0, .int .i64 0, .int .i64 0, .bool false, .slice none 0 0, .int .i64 0, .int .i64 0, .string (⟨#[]⟩), .string (⟨#[]⟩)]) (o := 0) (cs' := [.int .i64 z22, .int .i64 z38, .int .i64 z54, .int .i64 0, .int .i64 0, .int .i64 0, .int .i64 0, .bool false, .slice none 0 0, .int .i64 0, .int .i64 0, .string (⟨#[]⟩), .string (⟨#[]⟩)]) 13 rfl rfl size26 hB61 rfl rfl rfl
 refine st_op0 (he64 _ _ _ _ _ _ _ _ _ rfl rfl) rfl rfl ?_
 have hf67 : Fr (fun q => q = b57) H58 H63 := Fr.write H63n_ f66
 have H63n : H58.next ≤ H63.next := hf67.1
 try show aw _ _ _ _ _ _
 refine aw_seq ?_
 refine aw_reg ?_
 refine st_op (ev_move rfl) rfl rfl rfl ?_
 refine st_call rfl rfl rfl ent51 rfl rfl rfl ?_
 have hx69 : Ext H42 H63 := (Ext.then hx62 hf67 (fun q hq e => by omega))
 have h68 := Row.ext hm46 hx69
 have h70 := Ext.blk hx69 (by omega) hB51
 obtain ⟨_, H72, hs71, A74, c75, hs71v, hm76, hk80, hB81, hq77, hq78, hq79, hx73⟩ := msg_rnum_spec H63 A44 z55 c45 h68 hk50 (by omega) (by assumption) z56 p (by omega) h70
 rw [hs71v] at hs71; clear hs71v
 generalize hR83 : (Spec.rdNm z55 z56) = r82 at hs71 hm76 hk80 hB81 hq77 hq78 hq79
 obtain ⟨z84, z85, z86⟩ := r82
 dsimp only at hs71 hm76 hk80 hB81 hq77 hq78 hq79
 refine ⟨_, H72, hs71, ?_⟩
 have H72n : H63.next ≤ H72.next := hx73.1
 refine st_op (ev_fieldAddr rfl fa26_3 (o' := 3) rfl) rfl rfl rfl ?_
 have h87 := Fr.blk hx73 (by omega) (fun e => (by omega)) hB65
 obtain ⟨H88, he89, H88n_, hB90, f91⟩ := mem_store (v := .int .i64 z84) (o := 3) (cs' := [.int .i64 z22, .int .i64 z38, .int .i64 z54, .int .i64 z84, .int .i64 0, .int .i64 0, .int .i64 0, .bool false, .slice none 0 0, .int .i64 0, .int .i64 0, .string (⟨#[]⟩), .string (⟨#[]⟩)]) 1 rfl rfl size2 h87 rfl rfl rfl
 refine st_op0 (he89 _ _ _ _ _ _ _ _ _ rfl rfl) rfl rfl ?_
 have hf92 : Fr (fun q => q = b57) H72 H88 := Fr.write H88n_ f91
 have H88n : H72.next ≤ H88.next := hf92.1
 try show aw _ _ _ _ _ _
 refine aw_seq ?_
 refine aw_reg ?_
 refine st_op (ev_move rfl) rfl rfl rfl ?_
 refine st_call rfl rfl rfl ent51 rfl rfl rfl ?_
 have h93 := Row.fr hm76 hf92 (fun q hq e => ⟨_, e ▸ h87, show (0 : Nat) ≠ 1 by decide⟩)
 have h94 := Fr.blk hf92 (by omega) (fun e => (by omega)) hB81
 obtain ⟨_, H96, hs95, A98, c99, hs95v, hm100, hk104, hB105, hq101, hq102, hq103, hx97⟩ := msg_rnum_spec H88 A74 z85 c75 h93 hk80 (by omega) (by assumption) z86 p (by omega) h94
 rw [hs95v] at hs95; clear hs95v
 generalize hR107 : (Spec.rdNm z85 z86) = r106 at hs95 hm100 hk104 hB105 hq101 hq102 hq103
 obtain ⟨z108, z109, z110⟩ := r106
 dsimp only at hs95 hm100 hk104 hB105 hq101 hq102 hq103
 refine ⟨_, H96, hs95, ?_⟩
 have H96n : H88.next ≤ H96.next := hx97.1
 refine st_op (ev_fieldAddr rfl fa26_4 (o' := 4) rfl) rfl rfl rfl ?_
 have h111 := Fr.blk hx97 (by omega) (fun e => (by omega)) hB90
 obtain ⟨H112, he113, H112n_, hB114, f115⟩ := mem_store (v := .int .i64 z108) (o := 4) (cs' := [.int .i64 z22, .int .i64 z38, .int .i64 z54, .int .i64 z84, .int .i64 z108, .int .i64 0, .int .i64 0, .bool false, .slice none 0 0, .int .i64 0, .int .i64 0, .string (⟨#[]⟩), .string (⟨#[]⟩)]) 1 rfl rfl size2 h111 rfl rfl rfl
 refine st_op0 (he113 _ _ _ _ _ _ _ _ _ rfl rfl) rfl rfl ?_
 have hf116 : Fr (fun q => q = b57) H96 H112 := Fr.write H112n_ f115
 have H112n : H96.next ≤ H112.next := hf116.1
 try show aw _ _ _ _ _ _
 refine aw_seq ?_
 refine aw_reg ?_
 refine st_op (ev_move rfl) rfl rfl rfl ?_
 refine st_call rfl rfl rfl ent51 rfl rfl rfl ?_
 have h117 := Row.fr hm100 hf116 (fun q hq e => ⟨_, e ▸ h111, show (0 : Nat) ≠ 1 by decide⟩)
 have h118 := Fr.blk hf116 (by omega) (fun e => (by omega)) hB105
 obtain ⟨_, H120, hs119, A122, c123, hs119v, hm124, hk128, hB129, hq125, hq126, hq127, hx121⟩ := msg_rnum_spec H112 A98 z109 c99 h117 hk104 (by omega) (by assumption) z110 p (by omega) h118
 rw [hs119v] at hs119; clear hs119v
 generalize hR131 : (Spec.rdNm z109 z110) = r130 at hs119 hm124 hk128 hB129 hq125 hq126 hq127
 obtain ⟨z132, z133, z134⟩ := r130
 dsimp only at hs119 hm124 hk128 hB129 hq125 hq126 hq127
 refine ⟨_, H120, hs119, ?_⟩
 have H120n : H112.next ≤ H120.next := hx121.1
 refine st_op (ev_fieldAddr rfl fa26_5 (o' := 5) rfl) rfl rfl rfl ?_
 have h135 := Fr.blk hx121 (by omega) (fun e => (by omega)) hB114
 obtain ⟨H136, he137, H136n_, hB138, f139⟩ := mem_store (v := .int .i64 z132) (o := 5) (cs' := [.int .i64 z22, .int .i64 z38, .int .i64 z54, .int .i64 z84, .int .i64 z108, .int .i64 z132, .int .i64 0, .bool false, .slice none 0 0, .int .i64 0, .int .i64 0, .string (⟨#[]⟩), .string (⟨#[]⟩)]) 1 rfl rfl size2 h135 rfl rfl rfl
 refine st_op0 (he137 _ _ _ _ _ _ _ _ _ rfl rfl) rfl rfl ?_
 have hf140 : Fr (fun q => q = b57) H120 H136 := Fr.write H136n_ f139
 have H136n : H120.next ≤ H136.next := hf140.1
 try show aw _ _ _ _ _ _
 refine aw_seq ?_
 refine aw_reg ?_
 refine st_op (ev_move rfl) rfl rfl rfl ?_
 refine st_call rfl rfl rfl ent51 rfl rfl rfl ?_
 have h141 := Row.fr hm124 hf140 (fun q hq e => ⟨_, e ▸ h135, show (0 : Nat) ≠ 1 by decide⟩)
 have h142 := Fr.blk hf140 (by omega) (fun e => (by omega)) hB129
 obtain ⟨_, H144, hs143, A146, c147, hs143v, hm148, hk152, hB153, hq149, hq150, hq151, hx145⟩ := msg_rnum_spec H136 A122 z133 c123 h141 hk128 (by omega) (by assumption) z134 p (by omega) h142
 rw [hs143v] at hs143; clear hs143v
 generalize hR155 : (Spec.rdNm z133 z134) = r154 at hs143 hm148 hk152 hB153 hq149 hq150 hq151
 obtain ⟨z156, z157, z158⟩ := r154
 dsimp only at hs143 hm148 hk152 hB153 hq149 hq150 hq151
 refine ⟨_, H144, hs143, ?_⟩
 have H144n : H136.next ≤ H144.next := hx145.1
 refine st_op (ev_fieldAddr rfl fa26_6 (o' := 6) rfl) rfl rfl rfl ?_
 have h159 := Fr.blk hx145 (by omega) (fun e => (by omega)) hB138
 obtain ⟨H160, he161, H160n_, hB162, f163⟩ := mem_store (v := .int .i64 z156) (o := 6) (cs' := [.int .i64 z22, .int .i64 z38, .int .i64 z54, .int .i64 z84, .int .i64 z108, .int .i64 z132, .int .i64 z156, .bool false, .slice none 0 0, .int .i64 0, .int .i64 0, .string (⟨#[]⟩), .string (⟨#[]⟩)]) 1 rfl rfl size2 h159 rfl rfl rfl
 refine st_op0 (he161 _ _ _ _ _ _ _ _ _ rfl rfl) rfl rfl ?_
 have hf164 : Fr (fun q => q = b57) H144 H160 := Fr.write H160n_ f163
 have H160n : H144.next ≤ H160.next := hf164.1
 try show aw _ _ _ _ _ _
 refine aw_seq ?_
 refine aw_reg ?_
 refine st_op (ev_move rfl) rfl rfl rfl ?_
 refine st_call rfl rfl rfl ent51 rfl rfl rfl ?_
 have h165 := Row.fr hm148 hf164 (fun q hq e => ⟨_, e ▸ h159, show (0 : Nat) ≠ 1 by decide⟩)
 have h166 := Fr.blk hf164 (by omega) (fun e => (by omega)) hB153
 obtain ⟨_, H168, hs167, A170, c171, hs167v, hm172, hk176, hB177, hq173, hq174, hq175, hx169⟩ := msg_rnum_spec H160 A146 z157 c147 h165 hk152 (by omega) (by assumption) z158 p (by omega) h166
 rw [hs167v] at hs167; clear hs167v
 generalize hR179 : (Spec.rdNm z157 z158) = r178 at hs167 hm172 hk176 hB177 hq173 hq174 hq175
 obtain ⟨z180, z181, z182⟩ := r178
 dsimp only at hs167 hm172 hk176 hB177 hq173 hq174 hq175
 refine ⟨_, H168, hs167, ?_⟩
 have H168n : H160.next ≤ H168.next := hx169.1
 refine st_op (ev_int rfl rfl rfl) rfl rfl rfl ?_
 refine st_op (ev_fieldAddr rfl fa26_7 (o' := 7) rfl) rfl rfl rfl ?_
 have h183 := Fr.blk hx169 (by omega) (fun e => (by omega)) hB162
 obtain ⟨H184, he185, H184n_, hB186, f187⟩ := mem_store (v := .bool (z180 == 1)) (o := 7) (cs' := [.int .i64 z22, .int .i64 z38, .int .i64 z54, .int .i64 z84, .int .i64 z108, .int .i64 z132, .int .i64 z156, .bool (z180 == 1), .slice none 0 0, .int .i64 0, .int .i64 0, .string (⟨#[]⟩), .string (⟨#[]⟩)]) 1 rfl rfl size4 h183 rfl rfl rfl
 refine st_op0 (he185 _ _ _ _ _ _ _ _ _ rfl rfl) rfl rfl ?_
 have hf188 : Fr (fun q => q = b57) H168 H184 := Fr.write H184n_ f187
 have H184n : H168.next ≤ H184.next := hf188.1
 try show aw _ _ _ _ _ _
 iterate 2 refine aw_seq ?_
 refine aw_reg ?_
 refine st_op (ev_move rfl) rfl rfl rfl ?_
 refine st_call rfl rfl rfl ent51 rfl rfl rfl ?_
 have h189 := Row.fr hm172 hf188 (fun q hq e => ⟨_, e ▸ h183, show (0 : Nat) ≠ 1 by decide⟩)
 have h190 := Fr.blk hf188 (by omega) (fun e => (by omega)) hB177
 obtain ⟨_, H192, hs191, A194, c195, hs191v, hm196, hk200, hB201, hq197, hq198, hq199, hx193⟩ := msg_rnum_spec H184 A170 z181 c171 h189 hk176 (by omega) (by assumption) z182 p (by omega) h190
 rw [hs191v] at hs191; clear hs191v
 generalize hR203 : (Spec.rdNm z181 z182) = r202 at hs191 hm196 hk200 hB201 hq197 hq198 hq199
 obtain ⟨z204, z205, z206⟩ := r202
 dsimp only at hs191 hm196 hk200 hB201 hq197 hq198 hq199
 refine ⟨_, H192, hs191, ?_⟩
 have H192n : H184.next ≤ H192.next := hx193.1
 refine st_op (ev_assign rfl) rfl rfl rfl ?_
 try show aw _ _ _ _ _ _
 refine aw_block ?_
 have h212 := Fr.blk hx193 (by omega) (fun e => (by omega)) hB186
 have hm213 : My H192 H192 none 0 4 (([] : List Entry).map Entry.cells) := .nil
 refine aw_keep [0, 2, 3, 4] (l' := (.cons 0 (.pointer (some ⟨p, 0, none⟩)) (.cons 2 (.pointer (some ⟨b1, 0, none⟩)) (.cons 3 (.pointer (some ⟨b57, 0, none⟩)) (.cons 4 (.int .i64 z204) .nil))))) (by repeat (first | exact Up.done | refine Up.then ?_ | refine Up.inBlock ?_)) rfl ?_
 refine aw_iter (α := Int × Nat × Option Addr × Nat × List Int × Bool × Option Addr × Nat × List Entry × Heap) (fun a => a.2.1) (fun a => (.cons 0 (.pointer (some ⟨p, 0, none⟩)) (.cons 2 (.pointer (some ⟨b1, 0, none⟩)) (.cons 3 (.pointer (some ⟨b57, 0, none⟩)) (.cons 4 (.int .i64 a.1) .nil))))) (fun a => a.2.2.2.2.2.2.2.2.2) (fun a => (a.2.1 + a.2.2.2.2.2.2.2.2.1.length = 10) ∧ (a.2.2.2.2.2.2.2.2.1.length ≤ 9) ∧ (Spec.readEs 10 z204 z205 z206 [] = Spec.readEs a.2.1 a.1 a.2.2.2.2.1 a.2.2.2.2.2.1 a.2.2.2.2.2.2.2.2.1) ∧ (Spec.Bytes a.2.2.2.2.1) ∧ (a.2.2.2.2.1.length ≤ l.length) ∧ (-9223372036854775808 ≤ a.1 ∧ a.1 ≤ 9223372036854775807) ∧ (Row a.2.2.2.2.2.2.2.2.2 a.2.2.1 a.2.2.2.1 1 (a.2.2.2.2.1.map u8c)) ∧ (a.2.2.2.2.1.length ≤ a.2.2.2.1) ∧ (a.2.2.2.2.2.2.2.2.2.blk p = some ⟨[.slice a.2.2.1 a.2.2.2.2.1.length a.2.2.2.1, .bool a.2.2.2.2.2.1], 0, false, false⟩) ∧ (My H192 a.2.2.2.2.2.2.2.2.2 a.2.2.2.2.2.2.1 a.2.2.2.2.2.2.2.1 4 (a.2.2.2.2.2.2.2.2.1.map Entry.cells)) ∧ (a.2.2.2.2.2.2.2.2.2.blk b57 = some ⟨[.int .i64 z22, .int .i64 z38, .int .i64 z54, .int .i64 z84, .int .i64 z108, .int .i64 z132, .int .i64 z156, .bool (z180 == 1), .slice a.2.2.2.2.2.2.1 a.2.2.2.2.2.2.2.2.1.length a.2.2.2.2.2.2.2.1, .int .i64 0, .int .i64 0, .string (⟨#[]⟩), .string (⟨#[]⟩)], 0, false, false⟩) ∧ (Fr (fun q => q = p ∨ q = b57) H192 a.2.2.2.2.2.2.2.2.2)) (z204, 10, A194, c195, z205, z206, none, 0, ([] : List Entry), H192) ⟨(show 10 + ([] : List Entry).length = 10 from rfl), (show ([] : List Entry).length ≤ 9 from (by simp)), (show Spec.readEs 10 z204 z205 z206 [] = Spec.readEs 10 z204 z205 z206 ([] : List Entry) from rfl), (show Spec.Bytes z205 from (by assumption)), (show z205.length ≤ l.length from (by omega)), (show -9223372036854775808 ≤ z204 ∧ z204 ≤ 9223372036854775807 from ⟨by omega, by omega⟩), (show Row H192 A194 c195 1 (z205.map u8c) from hm196), (show z205.length ≤ c195 from hk200), (show H192.blk p = some ⟨[.slice A194 z205.length c195, .bool z206], 0, false, false⟩ from hB201), (show My H192 H192 none 0 4 (([] : List Entry).map Entry.cells) from hm213), (show H192.blk b57 = some ⟨[.int .i64 z22, .int .i64 z38, .int .i64 z54, .int .i64 z84, .int .i64 z108, .int .i64 z132, .int .i64 z156, .bool (z180 == 1), .slice none ([] : List Entry).length 0, .int .i64 0, .int .i64 0, .string (⟨#[]⟩), .string (⟨#[]⟩)], 0, false, false⟩ from h212), (show Fr (fun q => q = p ∨ q = b57) H192 H192 from (Fr.refl _ H192))⟩ ?_
 rintro ⟨n, f, lA2, lc2, l2, bad2, eA, ec, es, Hl207⟩ ⟨hf, hel, hq, hb2, hl2, hn208, hr209, hr210, hB211, hm214, hB215, hxl216⟩ ih217
 replace hf : f + es.length = 10 := hf
 replace hel : es.length ≤ 9 := hel
 replace hq : Spec.readEs 10 z204 z205 z206 [] = Spec.readEs f n l2 bad2 es := hq
 replace hb2 : Spec.Bytes l2 := hb2
 replace hl2 : l2.length ≤ l.length := hl2
 replace hn208 : -9223372036854775808 ≤ n ∧ n ≤ 9223372036854775807 := hn208
 replace hr209 : Row Hl207 lA2 lc2 1 (l2.map u8c) := hr209
 replace hr210 : l2.length ≤ lc2 := hr210
 replace hB211 : Hl207.blk p = some ⟨[.slice lA2 l2.length lc2, .bool bad2], 0, false, false⟩ := hB211
 replace hm214 : My H192 Hl207 eA ec 4 (es.map Entry.cells) := hm214
 replace hB215 : Hl207.blk b57 = some ⟨[.int .i64 z22, .int .i64 z38, .int .i64 z54, .int .i64 z84, .int .i64 z108, .int .i64 z132, .int .i64 z156, .bool (z180 == 1), .slice eA es.length ec, .int .i64 0, .int .i64 0, .string (⟨#[]⟩), .string (⟨#[]⟩)], 0, false, false⟩ := hB215
 replace hxl216 : Fr (fun q => q = p ∨ q = b57) H192 Hl207 := hxl216
 show aw _ _ _ (RL _ (.cons 0 (.pointer (some ⟨p, 0, none⟩)) (.cons 2 (.pointer (some ⟨b1, 0, none⟩)) (.cons 3 (.pointer (some ⟨b57, 0, none⟩)) (.cons 4 (.int .i64 n) .nil))))) Hl207 _
 have Hl207n : H192.next ≤ Hl207.next := hxl216.1
 iterate 2 refine aw_seq ?_
 refine aw_reg ?_
 refine st_op (ev_move rfl) rfl rfl rfl ?_
 refine st_op (ev_int rfl rfl rfl) rfl rfl rfl ?_
 refine st_op (ev_move rfl) rfl rfl rfl ?_
 refine st_bool 38 rfl (fun hb218 => ?_) (fun hb218 => ?_)
 ·
  have hb218 := of_decide_eq_true hb218
  refine st_op (ev_move rfl) rfl rfl rfl ?_
  refine st_op (ev_nilCheck rfl) rfl rfl rfl ?_
  refine st_op (ev_fieldAddr rfl fa67_1 (o' := 1) rfl) rfl rfl rfl ?_
  refine st_op (ev_load rfl (lvar_one one4 hB211 rfl)) rfl rfl rfl ?_
  refine st_op (ev_not rfl) rfl rfl rfl ?_
  refine st_op (ev_pickT rfl rfl) rfl rfl rfl ?_
  refine st_op (ev_move rfl) rfl rfl rfl ?_
  refine st_bool 45 rfl (fun hb219 => ?_) (fun hb219 => ?_)
  ·
   replace hb219 : bad2 = false := by rw [Bool.not_eq_true'] at hb219; exact hb219
   refine st_op (ev_fieldAddr rfl fa26_8 (o' := 8) rfl) rfl rfl rfl ?_
   refine st_op (ev_load rfl (lvar_one one22 hB215 rfl)) rfl rfl rfl ?_
   refine st_op (ev_lenSl rfl Try.underlying22) rfl rfl rfl ?_
   refine st_op (ev_int rfl rfl rfl) rfl rfl rfl ?_
   refine st_op (ev_pickT rfl rfl) rfl rfl rfl ?_
   try show aw _ _ _ _ _ _
   by_cases hc220 : (decide ((es.length : Int) ≤ 8)) = true
   ·
    refine aw_condT hc220 rfl ?_
    try show aw _ _ _ _ _ _
    have hc220 := of_decide_eq_true hc220
    refine aw_skip ?_
    try show aw _ _ _ _ _ _
    refine aw_seq ?_
    refine aw_block ?_
    refine aw_seq ?_
    refine aw_reg ?_
    refine st_op (ev_move rfl) rfl rfl rfl ?_
    refine st_op (ev_nilCheck rfl) rfl rfl rfl ?_
    refine st_op (ev_fieldAddr rfl fa67_0 (o' := 0) rfl) rfl rfl rfl ?_
    refine st_op (ev_load rfl (lvar_one one29 hB211 rfl)) rfl rfl rfl ?_
    refine st_call rfl rfl rfl ent52 rfl rfl rfl ?_
    obtain ⟨_, H222, hs221, hs221v, hq224, hq225, hq226, hx223⟩ := wal_Decode_spec Hl207 lA2 l2 lc2 hr209 hr210 (by omega) (by assumption)
    rw [hs221v] at hs221; clear hs221v
    generalize hR228 : (Spec.decF l2) = r227 at hs221 hq224 hq225 hq226
    obtain ⟨z229, z230, z231, z232, z233, z234, z235, z236, z237⟩ := r227
    dsimp only at hs221 hq224 hq225 hq226
    refine ⟨_, H222, hs221, ?_⟩
    have H222n : Hl207.next ≤ H222.next := hx223.1
    refine st_op (ev_move rfl) rfl rfl rfl ?_
    iterate 3 refine st_op (ev_extract rfl rfl) rfl rfl rfl ?_
    obtain ⟨b238, H239, he240, b238e, H239n_, hB242, f241⟩ := mem_alloc H222 zero82
    refine st_op (he240 _ _ _ _ _ _ _) rfl rfl rfl ?_
    have hx243 : Ext H222 H239 := Ext.new (by omega) H239n_ f241
    have H239n : H222.next ≤ H239.next := hx243.1
    obtain ⟨H244, he245, H244n_, hB246, f247⟩ := mem_store (v := .agg #[.bool z229, .int .i64 z230, .int .i64 z231, .int .i64 z232, .int .i64 z233, .int .i64 z234, .string z235]) (o := 0) (cs' := [.bool z229, .int .i64 z230, .int .i64 z231, .int .i64 z232, .int .i64 z233, .int .i64 z234, .string z235]) 7 rfl rfl size82 hB242 rfl rfl rfl
    refine st_op0 (he245 _ _ _ _ _ _ _ _ _ rfl rfl) rfl rfl ?_
    have hf248 : Fr (fun q => q = b238) H239 H244 := Fr.write H244n_ f247
    have H244n : H239.next ≤ H244.next := hf248.1
    iterate 2 refine st_op (ev_assign rfl) rfl rfl rfl ?_
    try show aw _ _ _ _ _ _
    refine aw_seq ?_
    refine aw_reg ?_
    iterate 3 refine st_op (ev_move rfl) rfl rfl rfl ?_
    refine st_call rfl rfl rfl ent53 rfl rfl rfl ?_
    have hx250 : Ext Hl207 H244 := (Ext.then (Ext.trans hx223 hx243) hf248 (fun q hq e => by omega))
    have h249 := Row.ext hr209 hx250
    have h251 := Ext.blk hx250 (by omega) hB211
    obtain ⟨_, H253, hs252, A255, c256, hs252v, hm257, hk260, hB261, hq258, hq259, hx254⟩ := msg_took_spec H244 lA2 l2 lc2 h249 hr210 (by omega) (by assumption) bad2 p (by omega) h251 z236 ⟨by omega, by omega⟩ z237 ⟨by omega, by omega⟩ (by omega)
    rw [hs252v] at hs252; clear hs252v
    generalize hR263 : (Spec.tookF l2 bad2 z236 z237) = r262 at hs252 hm257 hk260 hB261 hq258 hq259
    obtain ⟨z264, z265⟩ := r262
    dsimp only at hs252 hm257 hk260 hB261 hq258 hq259
    refine ⟨_, H253, hs252, ?_⟩
    have H253n : H244.next ≤ H253.next := hx254.1
    try show aw _ _ _ _ _ _
    refine aw_reg ?_
    refine st_op (ev_fieldAddr rfl fa26_8 (o' := 8) rfl) rfl rfl rfl ?_
    have h266 := Ext.blk hx250 (by omega) hB215
    have h267 := Fr.blk hx254 (by omega) (fun e => (by omega)) h266
    refine st_op (ev_load rfl (lvar_one one22 h267 rfl)) rfl rfl rfl ?_
    refine st_op (ev_fieldAddr rfl fa82_2 (o' := 3) rfl) rfl rfl rfl ?_
    have h268 := Fr.blk hx254 (by omega) (fun e => (by omega)) hB246
    refine st_op (ev_load rfl (lvar_part (l := [.int .i64 z232, .int .i64 z233, .int .i64 z234, .string z235]) many45 h268 rfl rfl (by decide))) rfl rfl rfl ?_
    obtain ⟨b269, H270, he271, b269e, H270n_, hm273, f272⟩ := mem_lit H253 (xs := ([.agg #[.int .i64 z232, .int .i64 z233, .int .i64 z234, .string z235]] : List Value)) (m := 1) (rows := [[.int .i64 z232, .int .i64 z233, .int .i64 z234, .string z235]]) rfl eok22 (by decide) (by decide) zf45 rfl (allLen rfl) rfl
    replace hm273 : My H253 H270 (some ⟨b269, 0, none⟩) 1 4 ([(⟨z232, z233, z234, z235⟩ : Entry)].map Entry.cells) := hm273
    refine st_op (he271 _ _ _ _ _ _ _ _ rfl) rfl rfl rfl ?_
    have hx274 : Ext H253 H270 := Ext.new (by omega) H270n_ f272
    have H270n : H253.next ≤ H270.next := hx274.1
    have h275 := My.ext hm214 hx250
    have h276 := My.frS h275 hx254 (fun q hq e => ⟨_, e ▸ h251, show (0 : Nat) ≠ 4 by decide⟩)
    have h277 := My.ext h276 hx274
    obtain ⟨A278, c279, H280, W281, he282, hm283, hf284⟩ := mem_append (f := Entry.cells) (old := es) (new := [(⟨z232, z233, z234, z235⟩ : Entry)]) (m := es.length) (mx := 1) (c := ec) (by first | rfl | simp) (by first | rfl | simp) eok22 (by decide) hm214 h277 (by omega) (((My.row hm273)).srcF (by decide) (by first | rfl | simp)) rfl Entry.cells_len Entry.cells_one (by first | omega | (simp only [List.length_append, List.length_cons, List.length_nil, List.length_map, List.length_set, List.length_replicate, Spec.bytesOf_length]; omega) | (simp; omega)) (by first | omega | (simp only [List.length_append, List.length_cons, List.length_nil, List.length_map, List.length_set, List.length_replicate, Spec.bytesOf_length]; omega) | (simp; omega))
    refine st_op (he282 _ _ _ _ _ _ _ _ _ _ rfl rfl isrow22) rfl rfl rfl ?_
    have H280n : H270.next ≤ H280.next := hf284.1
    refine st_op (ev_fieldAddr rfl fa26_8 (o' := 8) rfl) rfl rfl rfl ?_
    have h285 := Ext.blk hx274 (by omega) h267
    have h286 := Fr.blk hf284 (by omega) (fun e => (zb_ne h285 e.2.2 (show (0 : Nat) ≠ 4 by decide))) h285
    obtain ⟨H287, he288, H287n_, hB289, f290⟩ := mem_store (v := .slice A278 ((es ++ [(⟨z232, z233, z234, z235⟩ : Entry)]).length) c279) (o := 8) (cs' := [.int .i64 z22, .int .i64 z38, .int .i64 z54, .int .i64 z84, .int .i64 z108, .int .i64 z132, .int .i64 z156, .bool (z180 == 1), .slice A278 ((es ++ [(⟨z232, z233, z234, z235⟩ : Entry)]).length) c279, .int .i64 0, .int .i64 0, .string (⟨#[]⟩), .string (⟨#[]⟩)]) 1 rfl rfl size22 h286 rfl rfl rfl
    refine st_op0 (he288 _ _ _ _ _ _ _ _ _ rfl rfl) rfl rfl ?_
    have hf291 : Fr (fun q => q = b57) H280 H287 := Fr.write H287n_ f290
    have H287n : H280.next ≤ H287.next := hf291.1
    try show aw _ _ _ _ _ _
    refine aw_reg ?_
    refine st_op (ev_move rfl) rfl rfl rfl ?_
    refine st_op (ev_int64 (c := n - 1) rfl rfl rfl (by omega) (by omega)) rfl rfl rfl ?_
    refine st_op (ev_assign rfl) rfl rfl rfl ?_
    try show aw _ _ _ _ _ _
    have h292 := Row.ext hm257 hx274
    have h293 := Row.fr h292 hf284 (fun q hq e => (ZB.ne e.2.2 (show (4 : Nat) ≠ 1 by decide)))
    have h294 := Row.fr h293 hf291 (fun q hq e => ⟨_, e ▸ h286, show (0 : Nat) ≠ 1 by decide⟩)
    have h295 := Ext.blk hx274 (by omega) hB261
    have h296 := Fr.blk hf284 (by omega) (fun e => (zb_ne h295 e.2.2 (show (0 : Nat) ≠ 4 by decide))) h295
    have h297 := Fr.blk hf291 (by omega) (fun e => (by omega)) h296
    have h298 := My.frS hm283 hf291 (fun q hq e => ⟨_, e ▸ h286, show (0 : Nat) ≠ 4 by decide⟩)
    refine aw_keep [0, 2, 3, 4] (l' := (.cons 0 (.pointer (some ⟨p, 0, none⟩)) (.cons 2 (.pointer (some ⟨b1, 0, none⟩)) (.cons 3 (.pointer (some ⟨b57, 0, none⟩)) (.cons 4 (.int .i64 (n - 1)) .nil))))) (by repeat (first | exact Up.done | refine Up.then ?_ | refine Up.inBlock ?_)) rfl ?_
    exact ih217 (n - 1, (f - 1), A255, c256, z264, z265, A278, c279, (es ++ [(⟨z232, z233, z234, z235⟩ : Entry)]), H287) ⟨(show (f - 1) + (es ++ [(⟨z232, z233, z234, z235⟩ : Entry)]).length = 10 from (by rw [List.length_append, List.length_singleton]; omega)), (show (es ++ [(⟨z232, z233, z234, z235⟩ : Entry)]).length ≤ 9 from (by rw [List.length_append, List.length_singleton]; omega)), (show Spec.readEs 10 z204 z205 z206 [] = Spec.readEs (f - 1) (n - 1) z264 z265 (es ++ [(⟨z232, z233, z234, z235⟩ : Entry)]) from (by rw [hq]; exact Spec.readEs_next (by omega) (by omega) (by assumption) (by omega) hR228 hR263)), (show Spec.Bytes z264 from (by assumption)), (show z264.length ≤ l.length from (by omega)), (show -9223372036854775808 ≤ (n - 1) ∧ (n - 1) ≤ 9223372036854775807 from ⟨by omega, by omega⟩), (show Row H287 A255 c256 1 (z264.map u8c) from h294), (show z264.length ≤ c256 from hk260), (show H287.blk p = some ⟨[.slice A255 z264.length c256, .bool z265], 0, false, false⟩ from h297), (show My H192 H287 A278 c279 4 ((es ++ [(⟨z232, z233, z234, z235⟩ : Entry)]).map Entry.cells) from h298), (show H287.blk b57 = some ⟨[.int .i64 z22, .int .i64 z38, .int .i64 z54, .int .i64 z84, .int .i64 z108, .int .i64 z132, .int .i64 z156, .bool (z180 == 1), .slice A278 (es ++ [(⟨z232, z233, z234, z235⟩ : Entry)]).length c279, .int .i64 0, .int .i64 0, .string (⟨#[]⟩), .string (⟨#[]⟩)], 0, false, false⟩ from hB289), (show Fr (fun q => q = p ∨ q = b57) H192 H287 from (Fr.transG (Fr.transG (Fr.trans (Fr.transG (Fr.transG (Fr.trans (Fr.trans (Fr.transG (Fr.refl (fun q => q = p ∨ q = b57) H192) hxl216 (fun q hq hE e => Or.elim e (fun e => Or.inl (e)) (fun e => Or.inr ((e))))) (hx223.fr fun _ => False) (fun q hq (e : False) => e.elim)) (hx243.fr fun _ => False) (fun q hq (e : False) => e.elim)) hf248 (fun q hq hE e => absurd hq (by omega))) hx254 (fun q hq hE e => Or.inl (e))) (hx274.fr fun _ => False) (fun q hq (e : False) => e.elim)) hf284 (fun q hq hE e => absurd hq (by omega))) hf291 (fun q hq hE e => Or.inr ((e)))))⟩ (by simp only; omega)
   ·
    rw [Bool.not_eq_true] at hc220; refine aw_condF hc220 rfl ?_
    try show aw _ _ _ _ _ _
    have hc220 := of_decide_eq_false hc220
    refine aw_exit ?_
    try show aw _ _ _ _ _ _
    iterate 2 refine aw_seq ?_
    refine aw_reg ?_
    refine st_op (ev_fieldAddr rfl fa26_0 (o' := 0) rfl) rfl rfl rfl ?_
    refine st_op (ev_load rfl (lvar_one one3 hB215 rfl)) rfl rfl rfl ?_
    refine st_op (ev_int rfl rfl rfl) rfl rfl rfl ?_
    refine st_op (ev_move rfl) rfl rfl rfl ?_
    refine st_bool 76 rfl (fun hb299 => ?_) (fun hb299 => ?_)
    ·
     have hb299 := eq_of_beq hb299
     refine st_op (ev_move rfl) rfl rfl rfl ?_
     refine st_op (ev_nilCheck rfl) rfl rfl rfl ?_
     refine st_op (ev_fieldAddr rfl fa67_1 (o' := 1) rfl) rfl rfl rfl ?_
     refine st_op (ev_load rfl (lvar_one one4 hB211 rfl)) rfl rfl rfl ?_
     refine st_op (ev_not rfl) rfl rfl rfl ?_
     refine st_op (ev_pickT rfl rfl) rfl rfl rfl ?_
     try show aw _ _ _ _ _ _
     by_cases hc300 : (!bad2) = true
     ·
      refine aw_condT hc300 rfl ?_
      try show aw _ _ _ _ _ _
      replace hc300 : bad2 = false := by rw [Bool.not_eq_true'] at hc300; exact hc300
      refine aw_seq ?_
      refine aw_reg ?_
      refine st_op (ev_move rfl) rfl rfl rfl ?_
      refine st_op (ev_nilCheck rfl) rfl rfl rfl ?_
      refine st_op (ev_fieldAddr rfl fa67_0 (o' := 0) rfl) rfl rfl rfl ?_
      refine st_op (ev_load rfl (lvar_one one29 hB211 rfl)) rfl rfl rfl ?_
      refine st_call rfl rfl rfl ent54 rfl rfl rfl ?_
      obtain ⟨_, H302, hs301, hs301v, hq304, hq305, hq306, hx303⟩ := wal_GetSnap_spec Hl207 lA2 l2 lc2 hr209 hr210 (by omega) (by assumption)
      rw [hs301v] at hs301; clear hs301v
      generalize hR308 : (Spec.getSnapF l2) = r307 at hs301 hq304 hq305 hq306
      obtain ⟨z309, z310, z311, z312, z313, z314⟩ := r307
      dsimp only at hs301 hq304 hq305 hq306
      refine ⟨_, H302, hs301, ?_⟩
      have H302n : Hl207.next ≤ H302.next := hx303.1
      refine st_op (ev_move rfl) rfl rfl rfl ?_
      iterate 3 refine st_op (ev_extract rfl rfl) rfl rfl rfl ?_
      obtain ⟨b315, H316, he317, b315e, H316n_, hB319, f318⟩ := mem_alloc H302 zero24
      refine st_op (he317 _ _ _ _ _ _ _) rfl rfl rfl ?_
      have hx320 : Ext H302 H316 := Ext.new (by omega) H316n_ f318
      have H316n : H302.next ≤ H316.next := hx320.1
      obtain ⟨H321, he322, H321n_, hB323, f324⟩ := mem_store (v := .agg #[.int .i64 z309, .int .i64 z310, .string z311, .string z312]) (o := 0) (cs' := [.int .i64 z309, .int .i64 z310, .string z311, .string z312]) 4 rfl rfl size24 hB319 rfl rfl rfl
      refine st_op0 (he322 _ _ _ _ _ _ _ _ _ rfl rfl) rfl rfl ?_
      have hf325 : Fr (fun q => q = b315) H316 H321 := Fr.write H321n_ f324
      have H321n : H316.next ≤ H321.next := hf325.1
      iterate 2 refine st_op (ev_assign rfl) rfl rfl rfl ?_
      try show aw _ _ _ _ _ _
      refine aw_seq ?_
      refine aw_reg ?_
      iterate 3 refine st_op (ev_move rfl) rfl rfl rfl ?_
      refine st_call rfl rfl rfl ent53 rfl rfl rfl ?_
      have hx327 : Ext Hl207 H321 := (Ext.then (Ext.trans hx303 hx320) hf325 (fun q hq e => by omega))
      have h326 := Row.ext hr209 hx327
      have h328 := Ext.blk hx327 (by omega) hB211
      obtain ⟨_, H330, hs329, A332, c333, hs329v, hm334, hk337, hB338, hq335, hq336, hx331⟩ := msg_took_spec H321 lA2 l2 lc2 h326 hr210 (by omega) (by assumption) bad2 p (by omega) h328 z313 ⟨by omega, by omega⟩ z314 ⟨by omega, by omega⟩ (by omega)
      rw [hs329v] at hs329; clear hs329v
      generalize hR340 : (Spec.tookF l2 bad2 z313 z314) = r339 at hs329 hm334 hk337 hB338 hq335 hq336
      obtain ⟨z341, z342⟩ := r339
      dsimp only at hs329 hm334 hk337 hB338 hq335 hq336
      refine ⟨_, H330, hs329, ?_⟩
      have H330n : H321.next ≤ H330.next := hx331.1
      try show aw _ _ _ _ _ _
      refine aw_reg ?_
      have h343 := Fr.blk hx331 (by omega) (fun e => (by omega)) hB323
      refine st_op (ev_load rfl (lvar_part (l := [.int .i64 z309, .int .i64 z310, .string z311, .string z312]) many24 h343 rfl rfl (by decide))) rfl rfl rfl ?_
      refine st_op (ev_fieldAddr rfl fa26_9 (o' := 9) rfl) rfl rfl rfl ?_
      have h344 := Ext.blk hx327 (by omega) hB215
      have h345 := Fr.blk hx331 (by omega) (fun e => (by omega)) h344
      obtain ⟨H346, he347, H346n_, hB348, f349⟩ := mem_store (v := .agg #[.int .i64 z309, .int .i64 z310, .string z311, .string z312]) (o := 9) (cs' := [.int .i64 z22, .int .i64 z38, .int .i64 z54, .int .i64 z84, .int .i64 z108, .int .i64 z132, .int .i64 z156, .bool (z180 == 1), .slice eA es.length ec, .int .i64 z309, .int .i64 z310, .string z311, .string z312]) 4 rfl rfl size24 h345 rfl rfl rfl
      refine st_op0 (he347 _ _ _ _ _ _ _ _ _ rfl rfl) rfl rfl ?_
      have hf350 : Fr (fun q => q = b57) H330 H346 := Fr.write H346n_ f349
      have H346n : H330.next ≤ H346.next := hf350.1
      try show aw _ _ _ _ _ _
      refine aw_seq ?_
      refine aw_reg ?_
      refine st_op (ev_load rfl (lvar_part (l := [.int .i64 z22, .int .i64 z38, .int .i64 z54, .int .i64 z84, .int .i64 z108, .int .i64 z132, .int .i64 z156, .bool (z180 == 1), .slice eA es.length ec, .int .i64 z309, .int .i64 z310, .string z311, .string z312]) many26 hB348 rfl rfl (by decide))) rfl rfl rfl ?_
      have h351 := Fr.blk hx11 (by omega) (fun e => (by omega)) hB5
      have h352 := Fr.blk hx27 (by omega) (fun e => (by omega)) h351
      have h353 := Fr.blk hx43 (by omega) (fun e => (by omega)) h352
      have h354 := Ext.blk hx69 (by omega) h353
      have h355 := Fr.blk hx73 (by omega) (fun e => (by omega)) h354
      have h356 := Fr.blk hf92 (by omega) (fun e => (by omega)) h355
      have h357 := Fr.blk hx97 (by omega) (fun e => (by omega)) h356
      have h358 := Fr.blk hf116 (by omega) (fun e => (by omega)) h357
      have h359 := Fr.blk hx121 (by omega) (fun e => (by omega)) h358
      have h360 := Fr.blk hf140 (by omega) (fun e => (by omega)) h359
      have h361 := Fr.blk hx145 (by omega) (fun e => (by omega)) h360
      have h362 := Fr.blk hf164 (by omega) (fun e => (by omega)) h361
      have h363 := Fr.blk hx169 (by omega) (fun e => (by omega)) h362
      have h364 := Fr.blk hf188 (by omega) (fun e => (by omega)) h363
      have h365 := Fr.blk hx193 (by omega) (fun e => (by omega)) h364
      have h366 := Fr.blk hxl216 (by omega) (fun e => Or.elim e (fun e => (by omega)) (fun e => (by omega))) h365
      have h367 := Ext.blk hx327 (by omega) h366
      have h368 := Fr.blk hx331 (by omega) (fun e => (by omega)) h367
      have h369 := Fr.blk hf350 (by omega) (fun e => (by omega)) h368
      obtain ⟨H370, he371, H370n_, hB372, f373⟩ := mem_store (v := .agg #[.int .i64 z22, .int .i64 z38, .int .i64 z54, .int .i64 z84, .int .i64 z108, .int .i64 z132, .int .i64 z156, .bool (z180 == 1), .slice eA es.length ec, .int .i64 z309, .int .i64 z310, .string z311, .string z312]) (o := 0) (cs' := [.int .i64 z22, .int .i64 z38, .int .i64 z54, .int .i64 z84, .int .i64 z108, .int .i64 z132, .int .i64 z156, .bool (z180 == 1), .slice eA es.length ec, .int .i64 z309, .int .i64 z310, .string z311, .string z312]) 13 rfl rfl size26 h369 rfl rfl rfl
      refine st_op0 (he371 _ _ _ _ _ _ _ _ _ rfl rfl) rfl rfl ?_
      have hf374 : Fr (fun q => q = b1) H346 H370 := Fr.write H370n_ f373
      have H370n : H346.next ≤ H370.next := hf374.1
      try show aw _ _ _ _ _ _
      refine aw_ret ?_
      have h375 := My.ext hm214 hx327
      have h376 := My.frS h375 hx331 (fun q hq e => ⟨_, e ▸ h328, show (0 : Nat) ≠ 4 by decide⟩)
      have h377 := My.frS h376 hf350 (fun q hq e => ⟨_, e ▸ h345, show (0 : Nat) ≠ 4 by decide⟩)
      have h378 := My.frS h377 hf374 (fun q hq e => ⟨_, e ▸ h369, show (0 : Nat) ≠ 4 by decide⟩)
      have h379 := Row.fr hm334 hf350 (fun q hq e => ⟨_, e ▸ h345, show (0 : Nat) ≠ 1 by decide⟩)
      have h380 := Row.fr h379 hf374 (fun q hq e => ⟨_, e ▸ h369, show (0 : Nat) ≠ 1 by decide⟩)
      have h381 := Fr.blk hf350 (by omega) (fun e => (by omega)) hB338
      have h382 := Fr.blk hf374 (by omega) (fun e => (by omega)) h381
      have hres : (Spec.readT l bad) = (z22, z38, z54, z84, z108, z132, z156, (z180 == 1), es, z309, z310, z311, z312, z341, z342) := by have hend := Spec.readEs_end (f := f) (n := n) (l := l2) (bad := bad2) (es := es) (by omega) (by rintro ⟨h1, h2, h3⟩; first | omega | exact Bool.noConfusion (h2.symm.trans (show bad2 = true by assumption))); rw [Spec.readT_is hR21 hR37 hR53 hR83 hR107 hR131 hR155 hR179 hR203 (hq.trans hend)]; rw [if_pos ⟨by assumption, by assumption⟩, hR308]; simp only [hR340]
      exact ⟨.agg #[.int .i64 z22, .int .i64 z38, .int .i64 z54, .int .i64 z84, .int .i64 z108, .int .i64 z132, .int .i64 z156, .bool (z180 == 1), .slice eA es.length ec, .int .i64 z309, .int .i64 z310, .string z311, .string z312], (resA_of (resL_cell rfl (lvar_part (l := [.int .i64 z22, .int .i64 z38, .int .i64 z54, .int .i64 z84, .int .i64 z108, .int .i64 z132, .int .i64 z156, .bool (z180 == 1), .slice eA es.length ec, .int .i64 z309, .int .i64 z310, .string z311, .string z312]) many26 hB372 rfl rfl (by decide)) resL_nil) rfl), eA, ec, A332, c333, by first | (rw [hres]; first | done | rfl | simp; done) | rfl, (by rw [hres]; exact (My.older h378 (by omega))), (by rw [hres]; exact h380), (by rw [hres]; exact hk337), (by rw [hres]; exact h382), (by exact Spec.readT_es), (by exact (Spec.readT_snap bl).1), (by exact (Spec.readT_snap bl).2), (Fr.transG (Fr.transG (Fr.transG (Fr.transG (Fr.trans (Fr.trans (Fr.transG (Fr.transG (Fr.transG (Fr.transG (Fr.transG (Fr.transG (Fr.transG (Fr.transG (Fr.transG (Fr.transG (Fr.transG (Fr.transG (Fr.transG (Fr.trans (Fr.transG (Fr.transG (Fr.transG (Fr.trans (Fr.refl (fun q => q = p) H) (hx6.fr fun _ => False) (fun q hq (e : False) => e.elim)) hx11 (fun q hq hE e => (e))) hx27 (fun q hq hE e => (e))) hx43 (fun q hq hE e => (e))) (hx62.fr fun _ => False) (fun q hq (e : False) => e.elim)) hf67 (fun q hq hE e => absurd hq (by omega))) hx73 (fun q hq hE e => (e))) hf92 (fun q hq hE e => absurd hq (by omega))) hx97 (fun q hq hE e => (e))) hf116 (fun q hq hE e => absurd hq (by omega))) hx121 (fun q hq hE e => (e))) hf140 (fun q hq hE e => absurd hq (by omega))) hx145 (fun q hq hE e => (e))) hf164 (fun q hq hE e => absurd hq (by omega))) hx169 (fun q hq hE e => (e))) hf188 (fun q hq hE e => absurd hq (by omega))) hx193 (fun q hq hE e => (e))) hxl216 (fun q hq hE e => Or.elim e (fun e => (e)) (fun e => absurd hq (by omega)))) (hx303.fr fun _ => False) (fun q hq (e : False) => e.elim)) (hx320.fr fun _ => False) (fun q hq (e : False) => e.elim)) hf325 (fun q hq hE e => absurd hq (by omega))) hx331 (fun q hq hE e => (e))) hf350 (fun q hq hE e => absurd hq (by omega))) hf374 (fun q hq hE e => absurd hq (by omega)))⟩
     ·
      rw [Bool.not_eq_true] at hc300; refine aw_condF hc300 rfl ?_
      try show aw _ _ _ _ _ _
      replace hc300 : bad2 = true := by rw [Bool.not_eq_false'] at hc300; exact hc300
      refine aw_skip ?_
      try show aw _ _ _ _ _ _
      refine aw_seq ?_
      refine aw_reg ?_
      refine st_op (ev_load rfl (lvar_part (l := [.int .i64 z22, .int .i64 z38, .int .i64 z54, .int .i64 z84, .int .i64 z108, .int .i64 z132, .int .i64 z156, .bool (z180 == 1), .slice eA es.length ec, .int .i64 0, .int .i64 0, .string (⟨#[]⟩), .string (⟨#[]⟩)]) many26 hB215 rfl rfl (by decide))) rfl rfl rfl ?_
      have h383 := Fr.blk hx11 (by omega) (fun e => (by omega)) hB5
      have h384 := Fr.blk hx27 (by omega) (fun e => (by omega)) h383
      have h385 := Fr.blk hx43 (by omega) (fun e => (by omega)) h384
      have h386 := Ext.blk hx69 (by omega) h385
      have h387 := Fr.blk hx73 (by omega) (fun e => (by omega)) h386
      have h388 := Fr.blk hf92 (by omega) (fun e => (by omega)) h387
      have h389 := Fr.blk hx97 (by omega) (fun e => (by omega)) h388
      have h390 := Fr.blk hf116 (by omega) (fun e => (by omega)) h389
      have h391 := Fr.blk hx121 (by omega) (fun e => (by omega)) h390
      have h392 := Fr.blk hf140 (by omega) (fun e => (by omega)) h391
      have h393 := Fr.blk hx145 (by omega) (fun e => (by omega)) h392
      have h394 := Fr.blk hf164 (by omega) (fun e => (by omega)) h393
      have h395 := Fr.blk hx169 (by omega) (fun e => (by omega)) h394
      have h396 := Fr.blk hf188 (by omega) (fun e => (by omega)) h395
      have h397 := Fr.blk hx193 (by omega) (fun e => (by omega)) h396
      have h398 := Fr.blk hxl216 (by omega) (fun e => Or.elim e (fun e => (by omega)) (fun e => (by omega))) h397
      obtain ⟨H399, he400, H399n_, hB401, f402⟩ := mem_store (v := .agg #[.int .i64 z22, .int .i64 z38, .int .i64 z54, .int .i64 z84, .int .i64 z108, .int .i64 z132, .int .i64 z156, .bool (z180 == 1), .slice eA es.length ec, .int .i64 0, .int .i64 0, .string (⟨#[]⟩), .string (⟨#[]⟩)]) (o := 0) (cs' := [.int .i64 z22, .int .i64 z38, .int .i64 z54, .int .i64 z84, .int .i64 z108, .int .i64 z132, .int .i64 z156, .bool (z180 == 1), .slice eA es.length ec, .int .i64 0, .int .i64 0, .string (⟨#[]⟩), .string (⟨#[]⟩)]) 13 rfl rfl size26 h398 rfl rfl rfl
      refine st_op0 (he400 _ _ _ _ _ _ _ _ _ rfl rfl) rfl rfl ?_
      have hf403 : Fr (fun q => q = b1) Hl207 H399 := Fr.write H399n_ f402
      have H399n : Hl207.next ≤ H399.next := hf403.1
      try show aw _ _ _ _ _ _
      refine aw_ret ?_
      have h404 := My.frS hm214 hf403 (fun q hq e => ⟨_, e ▸ h398, show (0 : Nat) ≠ 4 by decide⟩)
      have h405 := Row.fr hr209 hf403 (fun q hq e => ⟨_, e ▸ h398, show (0 : Nat) ≠ 1 by decide⟩)
      have h406 := Fr.blk hf403 (by omega) (fun e => (by omega)) hB211
      have hres : (Spec.readT l bad) = (z22, z38, z54, z84, z108, z132, z156, (z180 == 1), es, 0, 0, (⟨#[]⟩ : ByteArray), (⟨#[]⟩ : ByteArray), l2, bad2) := by have hend := Spec.readEs_end (f := f) (n := n) (l := l2) (bad := bad2) (es := es) (by omega) (by rintro ⟨h1, h2, h3⟩; first | omega | exact Bool.noConfusion (h2.symm.trans (show bad2 = true by assumption))); rw [Spec.readT_is hR21 hR37 hR53 hR83 hR107 hR131 hR155 hR179 hR203 (hq.trans hend)]; rw [if_neg (by rintro ⟨h1, h2⟩; first | exact absurd h1 (by assumption) | exact Bool.noConfusion (h2.symm.trans (show bad2 = true by assumption)))]
      exact ⟨.agg #[.int .i64 z22, .int .i64 z38, .int .i64 z54, .int .i64 z84, .int .i64 z108, .int .i64 z132, .int .i64 z156, .bool (z180 == 1), .slice eA es.length ec, .int .i64 0, .int .i64 0, .string (⟨#[]⟩), .string (⟨#[]⟩)], (resA_of (resL_cell rfl (lvar_part (l := [.int .i64 z22, .int .i64 z38, .int .i64 z54, .int .i64 z84, .int .i64 z108, .int .i64 z132, .int .i64 z156, .bool (z180 == 1), .slice eA es.length ec, .int .i64 0, .int .i64 0, .string (⟨#[]⟩), .string (⟨#[]⟩)]) many26 hB401 rfl rfl (by decide)) resL_nil) rfl), eA, ec, lA2, lc2, by first | (rw [hres]; first | done | rfl | simp; done) | rfl, (by rw [hres]; exact (My.older h404 (by omega))), (by rw [hres]; exact h405), (by rw [hres]; exact hr210), (by rw [hres]; exact h406), (by exact Spec.readT_es), (by exact (Spec.readT_snap bl).1), (by exact (Spec.readT_snap bl).2), (Fr.transG (Fr.transG (Fr.transG (Fr.transG (Fr.transG (Fr.transG (Fr.transG (Fr.transG (Fr.transG (Fr.transG (Fr.transG (Fr.transG (Fr.transG (Fr.transG (Fr.trans (Fr.transG (Fr.transG (Fr.transG (Fr.trans (Fr.refl (fun q => q = p) H) (hx6.fr fun _ => False) (fun q hq (e : False) => e.elim)) hx11 (fun q hq hE e => (e))) hx27 (fun q hq hE e => (e))) hx43 (fun q hq hE e => (e))) (hx62.fr fun _ => False) (fun q hq (e : False) => e.elim)) hf67 (fun q hq hE e => absurd hq (by omega))) hx73 (fun q hq hE e => (e))) hf92 (fun q hq hE e => absurd hq (by omega))) hx97 (fun q hq hE e => (e))) hf116 (fun q hq hE e => absurd hq (by omega))) hx121 (fun q hq hE e => (e))) hf140 (fun q hq hE e => absurd hq (by omega))) hx145 (fun q hq hE e => (e))) hf164 (fun q hq hE e => absurd hq (by omega))) hx169 (fun q hq hE e => (e))) hf188 (fun q hq hE e => absurd hq (by omega))) hx193 (fun q hq hE e => (e))) hxl216 (fun q hq hE e => Or.elim e (fun e => (e)) (fun e => absurd hq (by omega)))) hf403 (fun q hq hE e => absurd hq (by omega)))⟩
    ·
     have hb299 := ne_of_beq_false hb299
     iterate 5 refine st_skip rfl rfl rfl ?_
     refine st_op (ev_pickF rfl rfl) rfl rfl rfl ?_
     try show aw _ _ _ _ _ _
     refine aw_cond (t := false) rfl ?_
     try show aw _ _ _ _ _ _
     refine aw_skip ?_
     try show aw _ _ _ _ _ _
     refine aw_seq ?_
     refine aw_reg ?_
     refine st_op (ev_load rfl (lvar_part (l := [.int .i64 z22, .int .i64 z38, .int .i64 z54, .int .i64 z84, .int .i64 z108, .int .i64 z132, .int .i64 z156, .bool (z180 == 1), .slice eA es.length ec, .int .i64 0, .int .i64 0, .string (⟨#[]⟩), .string (⟨#[]⟩)]) many26 hB215 rfl rfl (by decide))) rfl rfl rfl ?_
     have h407 := Fr.blk hx11 (by omega) (fun e => (by omega)) hB5
     have h408 := Fr.blk hx27 (by omega) (fun e => (by omega)) h407
     have h409 := Fr.blk hx43 (by omega) (fun e => (by omega)) h408
     have h410 := Ext.blk hx69 (by omega) h409
     have h411 := Fr.blk hx73 (by omega) (fun e => (by omega)) h410
     have h412 := Fr.blk hf92 (by omega) (fun e => (by omega)) h411
     have h413 := Fr.blk hx97 (by omega) (fun e => (by omega)) h412
     have h414 := Fr.blk hf116 (by omega) (fun e => (by omega)) h413
     have h415 := Fr.blk hx121 (by omega) (fun e => (by omega)) h414
     have h416 := Fr.blk hf140 (by omega) (fun e => (by omega)) h415
     have h417 := Fr.blk hx145 (by omega) (fun e => (by omega)) h416
     have h418 := Fr.blk hf164 (by omega) (fun e => (by omega)) h417
     have h419 := Fr.blk hx169 (by omega) (fun e => (by omega)) h418
     have h420 := Fr.blk hf188 (by omega) (fun e => (by omega)) h419
     have h421 := Fr.blk hx193 (by omega) (fun e => (by omega)) h420
     have h422 := Fr.blk hxl216 (by omega) (fun e => Or.elim e (fun e => (by omega)) (fun e => (by omega))) h421
     obtain ⟨H423, he424, H423n_, hB425, f426⟩ := mem_store (v := .agg #[.int .i64 z22, .int .i64 z38, .int .i64 z54, .int .i64 z84, .int .i64 z108, .int .i64 z132, .int .i64 z156, .bool (z180 == 1), .slice eA es.length ec, .int .i64 0, .int .i64 0, .string (⟨#[]⟩), .string (⟨#[]⟩)]) (o := 0) (cs' := [.int .i64 z22, .int .i64 z38, .int .i64 z54, .int .i64 z84, .int .i64 z108, .int .i64 z132, .int .i64 z156, .bool (z180 == 1), .slice eA es.length ec, .int .i64 0, .int .i64 0, .string (⟨#[]⟩), .string (⟨#[]⟩)]) 13 rfl rfl size26 h422 rfl rfl rfl
     refine st_op0 (he424 _ _ _ _ _ _ _ _ _ rfl rfl) rfl rfl ?_
     have hf427 : Fr (fun q => q = b1) Hl207 H423 := Fr.write H423n_ f426
     have H423n : Hl207.next ≤ H423.next := hf427.1
     try show aw _ _ _ _ _ _
     refine aw_ret ?_
     have h428 := My.frS hm214 hf427 (fun q hq e => ⟨_, e ▸ h422, show (0 : Nat) ≠ 4 by decide⟩)
     have h429 := Row.fr hr209 hf427 (fun q hq e => ⟨_, e ▸ h422, show (0 : Nat) ≠ 1 by decide⟩)
     have h430 := Fr.blk hf427 (by omega) (fun e => (by omega)) hB211
     have hres : (Spec.readT l bad) = (z22, z38, z54, z84, z108, z132, z156, (z180 == 1), es, 0, 0, (⟨#[]⟩ : ByteArray), (⟨#[]⟩ : ByteArray), l2, bad2) := by have hend := Spec.readEs_end (f := f) (n := n) (l := l2) (bad := bad2) (es := es) (by omega) (by rintro ⟨h1, h2, h3⟩; first | omega | exact Bool.noConfusion (h2.symm.trans (show bad2 = true by assumption))); rw [Spec.readT_is hR21 hR37 hR53 hR83 hR107 hR131 hR155 hR179 hR203 (hq.trans hend)]; rw [if_neg (by rintro ⟨h1, h2⟩; first | exact absurd h1 (by assumption) | exact Bool.noConfusion (h2.symm.trans (show bad2 = true by assumption)))]
     exact ⟨.agg #[.int .i64 z22, .int .i64 z38, .int .i64 z54, .int .i64 z84, .int .i64 z108, .int .i64 z132, .int .i64 z156, .bool (z180 == 1), .slice eA es.length ec, .int .i64 0, .int .i64 0, .string (⟨#[]⟩), .string (⟨#[]⟩)], (resA_of (resL_cell rfl (lvar_part (l := [.int .i64 z22, .int .i64 z38, .int .i64 z54, .int .i64 z84, .int .i64 z108, .int .i64 z132, .int .i64 z156, .bool (z180 == 1), .slice eA es.length ec, .int .i64 0, .int .i64 0, .string (⟨#[]⟩), .string (⟨#[]⟩)]) many26 hB425 rfl rfl (by decide)) resL_nil) rfl), eA, ec, lA2, lc2, by first | (rw [hres]; first | done | rfl | simp; done) | rfl, (by rw [hres]; exact (My.older h428 (by omega))), (by rw [hres]; exact h429), (by rw [hres]; exact hr210), (by rw [hres]; exact h430), (by exact Spec.readT_es), (by exact (Spec.readT_snap bl).1), (by exact (Spec.readT_snap bl).2), (Fr.transG (Fr.transG (Fr.transG (Fr.transG (Fr.transG (Fr.transG (Fr.transG (Fr.transG (Fr.transG (Fr.transG (Fr.transG (Fr.transG (Fr.transG (Fr.transG (Fr.trans (Fr.transG (Fr.transG (Fr.transG (Fr.trans (Fr.refl (fun q => q = p) H) (hx6.fr fun _ => False) (fun q hq (e : False) => e.elim)) hx11 (fun q hq hE e => (e))) hx27 (fun q hq hE e => (e))) hx43 (fun q hq hE e => (e))) (hx62.fr fun _ => False) (fun q hq (e : False) => e.elim)) hf67 (fun q hq hE e => absurd hq (by omega))) hx73 (fun q hq hE e => (e))) hf92 (fun q hq hE e => absurd hq (by omega))) hx97 (fun q hq hE e => (e))) hf116 (fun q hq hE e => absurd hq (by omega))) hx121 (fun q hq hE e => (e))) hf140 (fun q hq hE e => absurd hq (by omega))) hx145 (fun q hq hE e => (e))) hf164 (fun q hq hE e => absurd hq (by omega))) hx169 (fun q hq hE e => (e))) hf188 (fun q hq hE e => absurd hq (by omega))) hx193 (fun q hq hE e => (e))) hxl216 (fun q hq hE e => Or.elim e (fun e => (e)) (fun e => absurd hq (by omega)))) hf427 (fun q hq hE e => absurd hq (by omega)))⟩
  ·
   replace hb219 : bad2 = true := by rw [Bool.not_eq_false'] at hb219; exact hb219
   iterate 4 refine st_skip rfl rfl rfl ?_
   refine st_op (ev_pickF rfl rfl) rfl rfl rfl ?_
   try show aw _ _ _ _ _ _
   refine aw_cond (t := false) rfl ?_
   try show aw _ _ _ _ _ _
   refine aw_exit ?_
   try show aw _ _ _ _ _ _
   iterate 2 refine aw_seq ?_
   refine aw_reg ?_
   refine st_op (ev_fieldAddr rfl fa26_0 (o' := 0) rfl) rfl rfl rfl ?_
   refine st_op (ev_load rfl (lvar_one one3 hB215 rfl)) rfl rfl rfl ?_
   refine st_op (ev_int rfl rfl rfl) rfl rfl rfl ?_
   refine st_op (ev_move rfl) rfl rfl rfl ?_
   refine st_bool 76 rfl (fun hb431 => ?_) (fun hb431 => ?_)
   ·
    have hb431 := eq_of_beq hb431
    refine st_op (ev_move rfl) rfl rfl rfl ?_
    refine st_op (ev_nilCheck rfl) rfl rfl rfl ?_
    refine st_op (ev_fieldAddr rfl fa67_1 (o' := 1) rfl) rfl rfl rfl ?_
    refine st_op (ev_load rfl (lvar_one one4 hB211 rfl)) rfl rfl rfl ?_
    refine st_op (ev_not rfl) rfl rfl rfl ?_
    refine st_op (ev_pickT rfl rfl) rfl rfl rfl ?_
    try show aw _ _ _ _ _ _
    by_cases hc432 : (!bad2) = true
    ·
     refine aw_condT hc432 rfl ?_
     try show aw _ _ _ _ _ _
     replace hc432 : bad2 = false := by rw [Bool.not_eq_true'] at hc432; exact hc432
     refine aw_seq ?_
     refine aw_reg ?_
     refine st_op (ev_move rfl) rfl rfl rfl ?_
     refine st_op (ev_nilCheck rfl) rfl rfl rfl ?_
     refine st_op (ev_fieldAddr rfl fa67_0 (o' := 0) rfl) rfl rfl rfl ?_
     refine st_op (ev_load rfl (lvar_one one29 hB211 rfl)) rfl rfl rfl ?_
     refine st_call rfl rfl rfl ent54 rfl rfl rfl ?_
     obtain ⟨_, H434, hs433, hs433v, hq436, hq437, hq438, hx435⟩ := wal_GetSnap_spec Hl207 lA2 l2 lc2 hr209 hr210 (by omega) (by assumption)
     rw [hs433v] at hs433; clear hs433v
     generalize hR440 : (Spec.getSnapF l2) = r439 at hs433 hq436 hq437 hq438
     obtain ⟨z441, z442, z443, z444, z445, z446⟩ := r439
     dsimp only at hs433 hq436 hq437 hq438
     refine ⟨_, H434, hs433, ?_⟩
     have H434n : Hl207.next ≤ H434.next := hx435.1
     refine st_op (ev_move rfl) rfl rfl rfl ?_
     iterate 3 refine st_op (ev_extract rfl rfl) rfl rfl rfl ?_
     obtain ⟨b447, H448, he449, b447e, H448n_, hB451, f450⟩ := mem_alloc H434 zero24
     refine st_op (he449 _ _ _ _ _ _ _) rfl rfl rfl ?_
     have hx452 : Ext H434 H448 := Ext.new (by omega) H448n_ f450
     have H448n : H434.next ≤ H448.next := hx452.1
     obtain ⟨H453, he454, H453n_, hB455, f456⟩ := mem_store (v := .agg #[.int .i64 z441, .int .i64 z442, .string z443, .string z444]) (o := 0) (cs' := [.int .i64 z441, .int .i64 z442, .string z443, .string z444]) 4 rfl rfl size24 hB451 rfl rfl rfl
     refine st_op0 (he454 _ _ _ _ _ _ _ _ _ rfl rfl) rfl rfl ?_
     have hf457 : Fr (fun q => q = b447) H448 H453 := Fr.write H453n_ f456
     have H453n : H448.next ≤ H453.next := hf457.1
     iterate 2 refine st_op (ev_assign rfl) rfl rfl rfl ?_
     try show aw _ _ _ _ _ _
     refine aw_seq ?_
     refine aw_reg ?_
     iterate 3 refine st_op (ev_move rfl) rfl rfl rfl ?_
     refine st_call rfl rfl rfl ent53 rfl rfl rfl ?_
     have hx459 : Ext Hl207 H453 := (Ext.then (Ext.trans hx435 hx452) hf457 (fun q hq e => by omega))
     have h458 := Row.ext hr209 hx459
     have h460 := Ext.blk hx459 (by omega) hB211
     obtain ⟨_, H462, hs461, A464, c465, hs461v, hm466, hk469, hB470, hq467, hq468, hx463⟩ := msg_took_spec H453 lA2 l2 lc2 h458 hr210 (by omega) (by assumption) bad2 p (by omega) h460 z445 ⟨by omega, by omega⟩ z446 ⟨by omega, by omega⟩ (by omega)
     rw [hs461v] at hs461; clear hs461v
     generalize hR472 : (Spec.tookF l2 bad2 z445 z446) = r471 at hs461 hm466 hk469 hB470 hq467 hq468
     obtain ⟨z473, z474⟩ := r471
     dsimp only at hs461 hm466 hk469 hB470 hq467 hq468
     refine ⟨_, H462, hs461, ?_⟩
     have H462n : H453.next ≤ H462.next := hx463.1
     try show aw _ _ _ _ _ _
     refine aw_reg ?_
     have h475 := Fr.blk hx463 (by omega) (fun e => (by omega)) hB455
     refine st_op (ev_load rfl (lvar_part (l := [.int .i64 z441, .int .i64 z442, .string z443, .string z444]) many24 h475 rfl rfl (by decide))) rfl rfl rfl ?_
     refine st_op (ev_fieldAddr rfl fa26_9 (o' := 9) rfl) rfl rfl rfl ?_
     have h476 := Ext.blk hx459 (by omega) hB215
     have h477 := Fr.blk hx463 (by omega) (fun e => (by omega)) h476
     obtain ⟨H478, he479, H478n_, hB480, f481⟩ := mem_store (v := .agg #[.int .i64 z441, .int .i64 z442, .string z443, .string z444]) (o := 9) (cs' := [.int .i64 z22, .int .i64 z38, .int .i64 z54, .int .i64 z84, .int .i64 z108, .int .i64 z132, .int .i64 z156, .bool (z180 == 1), .slice eA es.length ec, .int .i64 z441, .int .i64 z442, .string z443, .string z444]) 4 rfl rfl size24 h477 rfl rfl rfl
     refine st_op0 (he479 _ _ _ _ _ _ _ _ _ rfl rfl) rfl rfl ?_
     have hf482 : Fr (fun q => q = b57) H462 H478 := Fr.write H478n_ f481
     have H478n : H462.next ≤ H478.next := hf482.1
     try show aw _ _ _ _ _ _
     refine aw_seq ?_
     refine aw_reg ?_
     refine st_op (ev_load rfl (lvar_part (l := [.int .i64 z22, .int .i64 z38, .int .i64 z54, .int .i64 z84, .int .i64 z108, .int .i64 z132, .int .i64 z156, .bool (z180 == 1), .slice eA es.length ec, .int .i64 z441, .int .i64 z442, .string z443, .string z444]) many26 hB480 rfl rfl (by decide))) rfl rfl rfl ?_
     have h483 := Fr.blk hx11 (by omega) (fun e => (by omega)) hB5
     have h484 := Fr.blk hx27 (by omega) (fun e => (by omega)) h483
     have h485 := Fr.blk hx43 (by omega) (fun e => (by omega)) h484
     have h486 := Ext.blk hx69 (by omega) h485
     have h487 := Fr.blk hx73 (by omega) (fun e => (by omega)) h486
     have h488 := Fr.blk hf92 (by omega) (fun e => (by omega)) h487
     have h489 := Fr.blk hx97 (by omega) (fun e => (by omega)) h488
     have h490 := Fr.blk hf116 (by omega) (fun e => (by omega)) h489
     have h491 := Fr.blk hx121 (by omega) (fun e => (by omega)) h490
     have h492 := Fr.blk hf140 (by omega) (fun e => (by omega)) h491
     have h493 := Fr.blk hx145 (by omega) (fun e => (by omega)) h492
     have h494 := Fr.blk hf164 (by omega) (fun e => (by omega)) h493
     have h495 := Fr.blk hx169 (by omega) (fun e => (by omega)) h494
     have h496 := Fr.blk hf188 (by omega) (fun e => (by omega)) h495
     have h497 := Fr.blk hx193 (by omega) (fun e => (by omega)) h496
     have h498 := Fr.blk hxl216 (by omega) (fun e => Or.elim e (fun e => (by omega)) (fun e => (by omega))) h497
     have h499 := Ext.blk hx459 (by omega) h498
     have h500 := Fr.blk hx463 (by omega) (fun e => (by omega)) h499
     have h501 := Fr.blk hf482 (by omega) (fun e => (by omega)) h500
     obtain ⟨H502, he503, H502n_, hB504, f505⟩ := mem_store (v := .agg #[.int .i64 z22, .int .i64 z38, .int .i64 z54, .int .i64 z84, .int .i64 z108, .int .i64 z132, .int .i64 z156, .bool (z180 == 1), .slice eA es.length ec, .int .i64 z441, .int .i64 z442, .string z443, .string z444]) (o := 0) (cs' := [.int .i64 z22, .int .i64 z38, .int .i64 z54, .int .i64 z84, .int .i64 z108, .int .i64 z132, .int .i64 z156, .bool (z180 == 1), .slice eA es.length ec, .int .i64 z441, .int .i64 z442, .string z443, .string z444]) 13 rfl rfl size26 h501 rfl rfl rfl
     refine st_op0 (he503 _ _ _ _ _ _ _ _ _ rfl rfl) rfl rfl ?_
     have hf506 : Fr (fun q => q = b1) H478 H502 := Fr.write H502n_ f505
     have H502n : H478.next ≤ H502.next := hf506.1
     try show aw _ _ _ _ _ _
     refine aw_ret ?_
     have h507 := My.ext hm214 hx459
     have h508 := My.frS h507 hx463 (fun q hq e => ⟨_, e ▸ h460, show (0 : Nat) ≠ 4 by decide⟩)
     have h509 := My.frS h508 hf482 (fun q hq e => ⟨_, e ▸ h477, show (0 : Nat) ≠ 4 by decide⟩)
     have h510 := My.frS h509 hf506 (fun q hq e => ⟨_, e ▸ h501, show (0 : Nat) ≠ 4 by decide⟩)
     have h511 := Row.fr hm466 hf482 (fun q hq e => ⟨_, e ▸ h477, show (0 : Nat) ≠ 1 by decide⟩)
     have h512 := Row.fr h511 hf506 (fun q hq e => ⟨_, e ▸ h501, show (0 : Nat) ≠ 1 by decide⟩)
     have h513 := Fr.blk hf482 (by omega) (fun e => (by omega)) hB470
     have h514 := Fr.blk hf506 (by omega) (fun e => (by omega)) h513
     have hres : (Spec.readT l bad) = (z22, z38, z54, z84, z108, z132, z156, (z180 == 1), es, z441, z442, z443, z444, z473, z474) := by have hend := Spec.readEs_end (f := f) (n := n) (l := l2) (bad := bad2) (es := es) (by omega) (by rintro ⟨h1, h2, h3⟩; first | omega | exact Bool.noConfusion (h2.symm.trans (show bad2 = true by assumption))); rw [Spec.readT_is hR21 hR37 hR53 hR83 hR107 hR131 hR155 hR179 hR203 (hq.trans hend)]; rw [if_pos ⟨by assumption, by assumption⟩, hR440]; simp only [hR472]
     exact ⟨.agg #[.int .i64 z22, .int .i64 z38, .int .i64 z54, .int .i64 z84, .int .i64 z108, .int .i64 z132, .int .i64 z156, .bool (z180 == 1), .slice eA es.length ec, .int .i64 z441, .int .i64 z442, .string z443, .string z444], (resA_of (resL_cell rfl (lvar_part (l := [.int .i64 z22, .int .i64 z38, .int .i64 z54, .int .i64 z84, .int .i64 z108, .int .i64 z132, .int .i64 z156, .bool (z180 == 1), .slice eA es.length ec, .int .i64 z441, .int .i64 z442, .string z443, .string z444]) many26 hB504 rfl rfl (by decide)) resL_nil) rfl), eA, ec, A464, c465, by first | (rw [hres]; first | done | rfl | simp; done) | rfl, (by rw [hres]; exact (My.older h510 (by omega))), (by rw [hres]; exact h512), (by rw [hres]; exact hk469), (by rw [hres]; exact h514), (by exact Spec.readT_es), (by exact (Spec.readT_snap bl).1), (by exact (Spec.readT_snap bl).2), (Fr.transG (Fr.transG (Fr.transG (Fr.transG (Fr.trans (Fr.trans (Fr.transG (Fr.transG (Fr.transG (Fr.transG (Fr.transG (Fr.transG (Fr.transG (Fr.transG (Fr.transG (Fr.transG (Fr.transG (Fr.transG (Fr.transG (Fr.trans (Fr.transG (Fr.transG (Fr.transG (Fr.trans (Fr.refl (fun q => q = p) H) (hx6.fr fun _ => False) (fun q hq (e : False) => e.elim)) hx11 (fun q hq hE e => (e))) hx27 (fun q hq hE e => (e))) hx43 (fun q hq hE e => (e))) (hx62.fr fun _ => False) (fun q hq (e : False) => e.elim)) hf67 (fun q hq hE e => absurd hq (by omega))) hx73 (fun q hq hE e => (e))) hf92 (fun q hq hE e => absurd hq (by omega))) hx97 (fun q hq hE e => (e))) hf116 (fun q hq hE e => absurd hq (by omega))) hx121 (fun q hq hE e => (e))) hf140 (fun q hq hE e => absurd hq (by omega))) hx145 (fun q hq hE e => (e))) hf164 (fun q hq hE e => absurd hq (by omega))) hx169 (fun q hq hE e => (e))) hf188 (fun q hq hE e => absurd hq (by omega))) hx193 (fun q hq hE e => (e))) hxl216 (fun q hq hE e => Or.elim e (fun e => (e)) (fun e => absurd hq (by omega)))) (hx435.fr fun _ => False) (fun q hq (e : False) => e.elim)) (hx452.fr fun _ => False) (fun q hq (e : False) => e.elim)) hf457 (fun q hq hE e => absurd hq (by omega))) hx463 (fun q hq hE e => (e))) hf482 (fun q hq hE e => absurd hq (by omega))) hf506 (fun q hq hE e => absurd hq (by omega)))⟩
    ·
     rw [Bool.not_eq_true] at hc432; refine aw_condF hc432 rfl ?_
     try show aw _ _ _ _ _ _
     replace hc432 : bad2 = true := by rw [Bool.not_eq_false'] at hc432; exact hc432
     refine aw_skip ?_
     try show aw _ _ _ _ _ _
     refine aw_seq ?_
     refine aw_reg ?_
     refine st_op (ev_load rfl (lvar_part (l := [.int .i64 z22, .int .i64 z38, .int .i64 z54, .int .i64 z84, .int .i64 z108, .int .i64 z132, .int .i64 z156, .bool (z180 == 1), .slice eA es.length ec, .int .i64 0, .int .i64 0, .string (⟨#[]⟩), .string (⟨#[]⟩)]) many26 hB215 rfl rfl (by decide))) rfl rfl rfl ?_
     have h515 := Fr.blk hx11 (by omega) (fun e => (by omega)) hB5
     have h516 := Fr.blk hx27 (by omega) (fun e => (by omega)) h515
     have h517 := Fr.blk hx43 (by omega) (fun e => (by omega)) h516
     have h518 := Ext.blk hx69 (by omega) h517
     have h519 := Fr.blk hx73 (by omega) (fun e => (by omega)) h518
     have h520 := Fr.blk hf92 (by omega) (fun e => (by omega)) h519
     have h521 := Fr.blk hx97 (by omega) (fun e => (by omega)) h520
     have h522 := Fr.blk hf116 (by omega) (fun e => (by omega)) h521
     have h523 := Fr.blk hx121 (by omega) (fun e => (by omega)) h522
     have h524 := Fr.blk hf140 (by omega) (fun e => (by omega)) h523
     have h525 := Fr.blk hx145 (by omega) (fun e => (by omega)) h524
     have h526 := Fr.blk hf164 (by omega) (fun e => (by omega)) h525
     have h527 := Fr.blk hx169 (by omega) (fun e => (by omega)) h526
     have h528 := Fr.blk hf188 (by omega) (fun e => (by omega)) h527
     have h529 := Fr.blk hx193 (by omega) (fun e => (by omega)) h528
     have h530 := Fr.blk hxl216 (by omega) (fun e => Or.elim e (fun e => (by omega)) (fun e => (by omega))) h529
     obtain ⟨H531, he532, H531n_, hB533, f534⟩ := mem_store (v := .agg #[.int .i64 z22, .int .i64 z38, .int .i64 z54, .int .i64 z84, .int .i64 z108, .int .i64 z132, .int .i64 z156, .bool (z180 == 1), .slice eA es.length ec, .int .i64 0, .int .i64 0, .string (⟨#[]⟩), .string (⟨#[]⟩)]) (o := 0) (cs' := [.int .i64 z22, .int .i64 z38, .int .i64 z54, .int .i64 z84, .int .i64 z108, .int .i64 z132, .int .i64 z156, .bool (z180 == 1), .slice eA es.length ec, .int .i64 0, .int .i64 0, .string (⟨#[]⟩), .string (⟨#[]⟩)]) 13 rfl rfl size26 h530 rfl rfl rfl
     refine st_op0 (he532 _ _ _ _ _ _ _ _ _ rfl rfl) rfl rfl ?_
     have hf535 : Fr (fun q => q = b1) Hl207 H531 := Fr.write H531n_ f534
     have H531n : Hl207.next ≤ H531.next := hf535.1
     try show aw _ _ _ _ _ _
     refine aw_ret ?_
     have h536 := My.frS hm214 hf535 (fun q hq e => ⟨_, e ▸ h530, show (0 : Nat) ≠ 4 by decide⟩)
     have h537 := Row.fr hr209 hf535 (fun q hq e => ⟨_, e ▸ h530, show (0 : Nat) ≠ 1 by decide⟩)
     have h538 := Fr.blk hf535 (by omega) (fun e => (by omega)) hB211
     have hres : (Spec.readT l bad) = (z22, z38, z54, z84, z108, z132, z156, (z180 == 1), es, 0, 0, (⟨#[]⟩ : ByteArray), (⟨#[]⟩ : ByteArray), l2, bad2) := by have hend := Spec.readEs_end (f := f) (n := n) (l := l2) (bad := bad2) (es := es) (by omega) (by rintro ⟨h1, h2, h3⟩; first | omega | exact Bool.noConfusion (h2.symm.trans (show bad2 = true by assumption))); rw [Spec.readT_is hR21 hR37 hR53 hR83 hR107 hR131 hR155 hR179 hR203 (hq.trans hend)]; rw [if_neg (by rintro ⟨h1, h2⟩; first | exact absurd h1 (by assumption) | exact Bool.noConfusion (h2.symm.trans (show bad2 = true by assumption)))]
     exact ⟨.agg #[.int .i64 z22, .int .i64 z38, .int .i64 z54, .int .i64 z84, .int .i64 z108, .int .i64 z132, .int .i64 z156, .bool (z180 == 1), .slice eA es.length ec, .int .i64 0, .int .i64 0, .string (⟨#[]⟩), .string (⟨#[]⟩)], (resA_of (resL_cell rfl (lvar_part (l := [.int .i64 z22, .int .i64 z38, .int .i64 z54, .int .i64 z84, .int .i64 z108, .int .i64 z132, .int .i64 z156, .bool (z180 == 1), .slice eA es.length ec, .int .i64 0, .int .i64 0, .string (⟨#[]⟩), .string (⟨#[]⟩)]) many26 hB533 rfl rfl (by decide)) resL_nil) rfl), eA, ec, lA2, lc2, by first | (rw [hres]; first | done | rfl | simp; done) | rfl, (by rw [hres]; exact (My.older h536 (by omega))), (by rw [hres]; exact h537), (by rw [hres]; exact hr210), (by rw [hres]; exact h538), (by exact Spec.readT_es), (by exact (Spec.readT_snap bl).1), (by exact (Spec.readT_snap bl).2), (Fr.transG (Fr.transG (Fr.transG (Fr.transG (Fr.transG (Fr.transG (Fr.transG (Fr.transG (Fr.transG (Fr.transG (Fr.transG (Fr.transG (Fr.transG (Fr.transG (Fr.trans (Fr.transG (Fr.transG (Fr.transG (Fr.trans (Fr.refl (fun q => q = p) H) (hx6.fr fun _ => False) (fun q hq (e : False) => e.elim)) hx11 (fun q hq hE e => (e))) hx27 (fun q hq hE e => (e))) hx43 (fun q hq hE e => (e))) (hx62.fr fun _ => False) (fun q hq (e : False) => e.elim)) hf67 (fun q hq hE e => absurd hq (by omega))) hx73 (fun q hq hE e => (e))) hf92 (fun q hq hE e => absurd hq (by omega))) hx97 (fun q hq hE e => (e))) hf116 (fun q hq hE e => absurd hq (by omega))) hx121 (fun q hq hE e => (e))) hf140 (fun q hq hE e => absurd hq (by omega))) hx145 (fun q hq hE e => (e))) hf164 (fun q hq hE e => absurd hq (by omega))) hx169 (fun q hq hE e => (e))) hf188 (fun q hq hE e => absurd hq (by omega))) hx193 (fun q hq hE e => (e))) hxl216 (fun q hq hE e => Or.elim e (fun e => (e)) (fun e => absurd hq (by omega)))) hf535 (fun q hq hE e => absurd hq (by omega)))⟩
   ·
    have hb431 := ne_of_beq_false hb431
    iterate 5 refine st_skip rfl rfl rfl ?_
    refine st_op (ev_pickF rfl rfl) rfl rfl rfl ?_
    try show aw _ _ _ _ _ _
    refine aw_cond (t := false) rfl ?_
    try show aw _ _ _ _ _ _
    refine aw_skip ?_
    try show aw _ _ _ _ _ _
    refine aw_seq ?_
    refine aw_reg ?_
    refine st_op (ev_load rfl (lvar_part (l := [.int .i64 z22, .int .i64 z38, .int .i64 z54, .int .i64 z84, .int .i64 z108, .int .i64 z132, .int .i64 z156, .bool (z180 == 1), .slice eA es.length ec, .int .i64 0, .int .i64 0, .string (⟨#[]⟩), .string (⟨#[]⟩)]) many26 hB215 rfl rfl (by decide))) rfl rfl rfl ?_
    have h539 := Fr.blk hx11 (by omega) (fun e => (by omega)) hB5
    have h540 := Fr.blk hx27 (by omega) (fun e => (by omega)) h539
    have h541 := Fr.blk hx43 (by omega) (fun e => (by omega)) h540
    have h542 := Ext.blk hx69 (by omega) h541
    have h543 := Fr.blk hx73 (by omega) (fun e => (by omega)) h542
    have h544 := Fr.blk hf92 (by omega) (fun e => (by omega)) h543
    have h545 := Fr.blk hx97 (by omega) (fun e => (by omega)) h544
    have h546 := Fr.blk hf116 (by omega) (fun e => (by omega)) h545
    have h547 := Fr.blk hx121 (by omega) (fun e => (by omega)) h546
    have h548 := Fr.blk hf140 (by omega) (fun e => (by omega)) h547
    have h549 := Fr.blk hx145 (by omega) (fun e => (by omega)) h548
    have h550 := Fr.blk hf164 (by omega) (fun e => (by omega)) h549
    have h551 := Fr.blk hx169 (by omega) (fun e => (by omega)) h550
    have h552 := Fr.blk hf188 (by omega) (fun e => (by omega)) h551
    have h553 := Fr.blk hx193 (by omega) (fun e => (by omega)) h552
    have h554 := Fr.blk hxl216 (by omega) (fun e => Or.elim e (fun e => (by omega)) (fun e => (by omega))) h553
    obtain ⟨H555, he556, H555n_, hB557, f558⟩ := mem_store (v := .agg #[.int .i64 z22, .int .i64 z38, .int .i64 z54, .int .i64 z84, .int .i64 z108, .int .i64 z132, .int .i64 z156, .bool (z180 == 1), .slice eA es.length ec, .int .i64 0, .int .i64 0, .string (⟨#[]⟩), .string (⟨#[]⟩)]) (o := 0) (cs' := [.int .i64 z22, .int .i64 z38, .int .i64 z54, .int .i64 z84, .int .i64 z108, .int .i64 z132, .int .i64 z156, .bool (z180 == 1), .slice eA es.length ec, .int .i64 0, .int .i64 0, .string (⟨#[]⟩), .string (⟨#[]⟩)]) 13 rfl rfl size26 h554 rfl rfl rfl
    refine st_op0 (he556 _ _ _ _ _ _ _ _ _ rfl rfl) rfl rfl ?_
    have hf559 : Fr (fun q => q = b1) Hl207 H555 := Fr.write H555n_ f558
    have H555n : Hl207.next ≤ H555.next := hf559.1
    try show aw _ _ _ _ _ _
    refine aw_ret ?_
    have h560 := My.frS hm214 hf559 (fun q hq e => ⟨_, e ▸ h554, show (0 : Nat) ≠ 4 by decide⟩)
    have h561 := Row.fr hr209 hf559 (fun q hq e => ⟨_, e ▸ h554, show (0 : Nat) ≠ 1 by decide⟩)
    have h562 := Fr.blk hf559 (by omega) (fun e => (by omega)) hB211
    have hres : (Spec.readT l bad) = (z22, z38, z54, z84, z108, z132, z156, (z180 == 1), es, 0, 0, (⟨#[]⟩ : ByteArray), (⟨#[]⟩ : ByteArray), l2, bad2) := by have hend := Spec.readEs_end (f := f) (n := n) (l := l2) (bad := bad2) (es := es) (by omega) (by rintro ⟨h1, h2, h3⟩; first | omega | exact Bool.noConfusion (h2.symm.trans (show bad2 = true by assumption))); rw [Spec.readT_is hR21 hR37 hR53 hR83 hR107 hR131 hR155 hR179 hR203 (hq.trans hend)]; rw [if_neg (by rintro ⟨h1, h2⟩; first | exact absurd h1 (by assumption) | exact Bool.noConfusion (h2.symm.trans (show bad2 = true by assumption)))]
    exact ⟨.agg #[.int .i64 z22, .int .i64 z38, .int .i64 z54, .int .i64 z84, .int .i64 z108, .int .i64 z132, .int .i64 z156, .bool (z180 == 1), .slice eA es.length ec, .int .i64 0, .int .i64 0, .string (⟨#[]⟩), .string (⟨#[]⟩)], (resA_of (resL_cell rfl (lvar_part (l := [.int .i64 z22, .int .i64 z38, .int .i64 z54, .int .i64 z84, .int .i64 z108, .int .i64 z132, .int .i64 z156, .bool (z180 == 1), .slice eA es.length ec, .int .i64 0, .int .i64 0, .string (⟨#[]⟩), .string (⟨#[]⟩)]) many26 hB557 rfl rfl (by decide)) resL_nil) rfl), eA, ec, lA2, lc2, by first | (rw [hres]; first | done | rfl | simp; done) | rfl, (by rw [hres]; exact (My.older h560 (by omega))), (by rw [hres]; exact h561), (by rw [hres]; exact hr210), (by rw [hres]; exact h562), (by exact Spec.readT_es), (by exact (Spec.readT_snap bl).1), (by exact (Spec.readT_snap bl).2), (Fr.transG (Fr.transG (Fr.transG (Fr.transG (Fr.transG (Fr.transG (Fr.transG (Fr.transG (Fr.transG (Fr.transG (Fr.transG (Fr.transG (Fr.transG (Fr.transG (Fr.trans (Fr.transG (Fr.transG (Fr.transG (Fr.trans (Fr.refl (fun q => q = p) H) (hx6.fr fun _ => False) (fun q hq (e : False) => e.elim)) hx11 (fun q hq hE e => (e))) hx27 (fun q hq hE e => (e))) hx43 (fun q hq hE e => (e))) (hx62.fr fun _ => False) (fun q hq (e : False) => e.elim)) hf67 (fun q hq hE e => absurd hq (by omega))) hx73 (fun q hq hE e => (e))) hf92 (fun q hq hE e => absurd hq (by omega))) hx97 (fun q hq hE e => (e))) hf116 (fun q hq hE e => absurd hq (by omega))) hx121 (fun q hq hE e => (e))) hf140 (fun q hq hE e => absurd hq (by omega))) hx145 (fun q hq hE e => (e))) hf164 (fun q hq hE e => absurd hq (by omega))) hx169 (fun q hq hE e => (e))) hf188 (fun q hq hE e => absurd hq (by omega))) hx193 (fun q hq hE e => (e))) hxl216 (fun q hq hE e => Or.elim e (fun e => (e)) (fun e => absurd hq (by omega)))) hf559 (fun q hq hE e => absurd hq (by omega)))⟩
 ·
  have hb218 := of_decide_eq_false hb218
  iterate 5 refine st_skip rfl rfl rfl ?_
  refine st_op (ev_pickF rfl rfl) rfl rfl rfl ?_
  refine st_op (ev_move rfl) rfl rfl rfl ?_
  iterate 4 refine st_skip rfl rfl rfl ?_
  refine st_op (ev_pickF rfl rfl) rfl rfl rfl ?_
  try show aw _ _ _ _ _ _
  refine aw_cond (t := false) rfl ?_
  try show aw _ _ _ _ _ _
  refine aw_exit ?_
  try show aw _ _ _ _ _ _
  iterate 2 refine aw_seq ?_
  refine aw_reg ?_
  refine st_op (ev_fieldAddr rfl fa26_0 (o' := 0) rfl) rfl rfl rfl ?_
  refine st_op (ev_load rfl (lvar_one one3 hB215 rfl)) rfl rfl rfl ?_
  refine st_op (ev_int rfl rfl rfl) rfl rfl rfl ?_
  refine st_op (ev_move rfl) rfl rfl rfl ?_
  refine st_bool 76 rfl (fun hb563 => ?_) (fun hb563 => ?_)
  ·
   have hb563 := eq_of_beq hb563
   refine st_op (ev_move rfl) rfl rfl rfl ?_
   refine st_op (ev_nilCheck rfl) rfl rfl rfl ?_
   refine st_op (ev_fieldAddr rfl fa67_1 (o' := 1) rfl) rfl rfl rfl ?_
   refine st_op (ev_load rfl (lvar_one one4 hB211 rfl)) rfl rfl rfl ?_
   refine st_op (ev_not rfl) rfl rfl rfl ?_
   refine st_op (ev_pickT rfl rfl) rfl rfl rfl ?_
   try show aw _ _ _ _ _ _
   by_cases hc564 : (!bad2) = true
   ·
    refine aw_condT hc564 rfl ?_
    try show aw _ _ _ _ _ _
    replace hc564 : bad2 = false := by rw [Bool.not_eq_true'] at hc564; exact hc564
    refine aw_seq ?_
    refine aw_reg ?_
    refine st_op (ev_move rfl) rfl rfl rfl ?_
    refine st_op (ev_nilCheck rfl) rfl rfl rfl ?_
    refine st_op (ev_fieldAddr rfl fa67_0 (o' := 0) rfl) rfl rfl rfl ?_
    refine st_op (ev_load rfl (lvar_one one29 hB211 rfl)) rfl rfl rfl ?_
    refine st_call rfl rfl rfl ent54 rfl rfl rfl ?_
    obtain ⟨_, H566, hs565, hs565v, hq568, hq569, hq570, hx567⟩ := wal_GetSnap_spec Hl207 lA2 l2 lc2 hr209 hr210 (by omega) (by assumption)
    rw [hs565v] at hs565; clear hs565v
    generalize hR572 : (Spec.getSnapF l2) = r571 at hs565 hq568 hq569 hq570
    obtain ⟨z573, z574, z575, z576, z577, z578⟩ := r571
    dsimp only at hs565 hq568 hq569 hq570
    refine ⟨_, H566, hs565, ?_⟩
    have H566n : Hl207.next ≤ H566.next := hx567.1
    refine st_op (ev_move rfl) rfl rfl rfl ?_
    iterate 3 refine st_op (ev_extract rfl rfl) rfl rfl rfl ?_
    obtain ⟨b579, H580, he581, b579e, H580n_, hB583, f582⟩ := mem_alloc H566 zero24
    refine st_op (he581 _ _ _ _ _ _ _) rfl rfl rfl ?_
    have hx584 : Ext H566 H580 := Ext.new (by omega) H580n_ f582
    have H580n : H566.next ≤ H580.next := hx584.1
    obtain ⟨H585, he586, H585n_, hB587, f588⟩ := mem_store (v := .agg #[.int .i64 z573, .int .i64 z574, .string z575, .string z576]) (o := 0) (cs' := [.int .i64 z573, .int .i64 z574, .string z575, .string z576]) 4 rfl rfl size24 hB583 rfl rfl rfl
    refine st_op0 (he586 _ _ _ _ _ _ _ _ _ rfl rfl) rfl rfl ?_
    have hf589 : Fr (fun q => q = b579) H580 H585 := Fr.write H585n_ f588
    have H585n : H580.next ≤ H585.next := hf589.1
    iterate 2 refine st_op (ev_assign rfl) rfl rfl rfl ?_
    try show aw _ _ _ _ _ _
    refine aw_seq ?_
    refine aw_reg ?_
    iterate 3 refine st_op (ev_move rfl) rfl rfl rfl ?_
    refine st_call rfl rfl rfl ent53 rfl rfl rfl ?_
    have hx591 : Ext Hl207 H585 := (Ext.then (Ext.trans hx567 hx584) hf589 (fun q hq e => by omega))
    have h590 := Row.ext hr209 hx591
    have h592 := Ext.blk hx591 (by omega) hB211
    obtain ⟨_, H594, hs593, A596, c597, hs593v, hm598, hk601, hB602, hq599, hq600, hx595⟩ := msg_took_spec H585 lA2 l2 lc2 h590 hr210 (by omega) (by assumption) bad2 p (by omega) h592 z577 ⟨by omega, by omega⟩ z578 ⟨by omega, by omega⟩ (by omega)
    rw [hs593v] at hs593; clear hs593v
    generalize hR604 : (Spec.tookF l2 bad2 z577 z578) = r603 at hs593 hm598 hk601 hB602 hq599 hq600
    obtain ⟨z605, z606⟩ := r603
    dsimp only at hs593 hm598 hk601 hB602 hq599 hq600
    refine ⟨_, H594, hs593, ?_⟩
    have H594n : H585.next ≤ H594.next := hx595.1
    try show aw _ _ _ _ _ _
    refine aw_reg ?_
    have h607 := Fr.blk hx595 (by omega) (fun e => (by omega)) hB587
    refine st_op (ev_load rfl (lvar_part (l := [.int .i64 z573, .int .i64 z574, .string z575, .string z576]) many24 h607 rfl rfl (by decide))) rfl rfl rfl ?_
    refine st_op (ev_fieldAddr rfl fa26_9 (o' := 9) rfl) rfl rfl rfl ?_
    have h608 := Ext.blk hx591 (by omega) hB215
    have h609 := Fr.blk hx595 (by omega) (fun e => (by omega)) h608
    obtain ⟨H610, he611, H610n_, hB612, f613⟩ := mem_store (v := .agg #[.int .i64 z573, .int .i64 z574, .string z575, .string z576]) (o := 9) (cs' := [.int .i64 z22, .int .i64 z38, .int .i64 z54, .int .i64 z84, .int .i64 z108, .int .i64 z132, .int .i64 z156, .bool (z180 == 1), .slice eA es.length ec, .int .i64 z573, .int .i64 z574, .string z575, .string z576]) 4 rfl rfl size24 h609 rfl rfl rfl
    refine st_op0 (he611 _ _ _ _ _ _ _ _ _ rfl rfl) rfl rfl ?_
    have hf614 : Fr (fun q => q = b57) H594 H610 := Fr.write H610n_ f613
    have H610n : H594.next ≤ H610.next := hf614.1
    try show aw _ _ _ _ _ _
    refine aw_seq ?_
    refine aw_reg ?_
    refine st_op (ev_load rfl (lvar_part (l := [.int .i64 z22, .int .i64 z38, .int .i64 z54, .int .i64 z84, .int .i64 z108, .int .i64 z132, .int .i64 z156, .bool (z180 == 1), .slice eA es.length ec, .int .i64 z573, .int .i64 z574, .string z575, .string z576]) many26 hB612 rfl rfl (by decide))) rfl rfl rfl ?_
    have h615 := Fr.blk hx11 (by omega) (fun e => (by omega)) hB5
    have h616 := Fr.blk hx27 (by omega) (fun e => (by omega)) h615
    have h617 := Fr.blk hx43 (by omega) (fun e => (by omega)) h616
    have h618 := Ext.blk hx69 (by omega) h617
    have h619 := Fr.blk hx73 (by omega) (fun e => (by omega)) h618
    have h620 := Fr.blk hf92 (by omega) (fun e => (by omega)) h619
    have h621 := Fr.blk hx97 (by omega) (fun e => (by omega)) h620
    have h622 := Fr.blk hf116 (by omega) (fun e => (by omega)) h621
    have h623 := Fr.blk hx121 (by omega) (fun e => (by omega)) h622
    have h624 := Fr.blk hf140 (by omega) (fun e => (by omega)) h623
    have h625 := Fr.blk hx145 (by omega) (fun e => (by omega)) h624
    have h626 := Fr.blk hf164 (by omega) (fun e => (by omega)) h625
    have h627 := Fr.blk hx169 (by omega) (fun e => (by omega)) h626
    have h628 := Fr.blk hf188 (by omega) (fun e => (by omega)) h627
    have h629 := Fr.blk hx193 (by omega) (fun e => (by omega)) h628
    have h630 := Fr.blk hxl216 (by omega) (fun e => Or.elim e (fun e => (by omega)) (fun e => (by omega))) h629
    have h631 := Ext.blk hx591 (by omega) h630
    have h632 := Fr.blk hx595 (by omega) (fun e => (by omega)) h631
    have h633 := Fr.blk hf614 (by omega) (fun e => (by omega)) h632
    obtain ⟨H634, he635, H634n_, hB636, f637⟩ := mem_store (v := .agg #[.int .i64 z22, .int .i64 z38, .int .i64 z54, .int .i64 z84, .int .i64 z108, .int .i64 z132, .int .i64 z156, .bool (z180 == 1), .slice eA es.length ec, .int .i64 z573, .int .i64 z574, .string z575, .string z576]) (o := 0) (cs' := [.int .i64 z22, .int .i64 z38, .int .i64 z54, .int .i64 z84, .int .i64 z108, .int .i64 z132, .int .i64 z156, .bool (z180 == 1), .slice eA es.length ec, .int .i64 z573, .int .i64 z574, .string z575, .string z576]) 13 rfl rfl size26 h633 rfl rfl rfl
    refine st_op0 (he635 _ _ _ _ _ _ _ _ _ rfl rfl) rfl rfl ?_
    have hf638 : Fr (fun q => q = b1) H610 H634 := Fr.write H634n_ f637
    have H634n : H610.next ≤ H634.next := hf638.1
    try show aw _ _ _ _ _ _
    refine aw_ret ?_
    have h639 := My.ext hm214 hx591
    have h640 := My.frS h639 hx595 (fun q hq e => ⟨_, e ▸ h592, show (0 : Nat) ≠ 4 by decide⟩)
    have h641 := My.frS h640 hf614 (fun q hq e => ⟨_, e ▸ h609, show (0 : Nat) ≠ 4 by decide⟩)
    have h642 := My.frS h641 hf638 (fun q hq e => ⟨_, e ▸ h633, show (0 : Nat) ≠ 4 by decide⟩)
    have h643 := Row.fr hm598 hf614 (fun q hq e => ⟨_, e ▸ h609, show (0 : Nat) ≠ 1 by decide⟩)
    have h644 := Row.fr h643 hf638 (fun q hq e => ⟨_, e ▸ h633, show (0 : Nat) ≠ 1 by decide⟩)
    have h645 := Fr.blk hf614 (by omega) (fun e => (by omega)) hB602
    have h646 := Fr.blk hf638 (by omega) (fun e => (by omega)) h645
    have hres : (Spec.readT l bad) = (z22, z38, z54, z84, z108, z132, z156, (z180 == 1), es, z573, z574, z575, z576, z605, z606) := by have hend := Spec.readEs_end (f := f) (n := n) (l := l2) (bad := bad2) (es := es) (by omega) (by rintro ⟨h1, h2, h3⟩; first | omega | exact Bool.noConfusion (h2.symm.trans (show bad2 = true by assumption))); rw [Spec.readT_is hR21 hR37 hR53 hR83 hR107 hR131 hR155 hR179 hR203 (hq.trans hend)]; rw [if_pos ⟨by assumption, by assumption⟩, hR572]; simp only [hR604]
    exact ⟨.agg #[.int .i64 z22, .int .i64 z38, .int .i64 z54, .int .i64 z84, .int .i64 z108, .int .i64 z132, .int .i64 z156, .bool (z180 == 1), .slice eA es.length ec, .int .i64 z573, .int .i64 z574, .string z575, .string z576], (resA_of (resL_cell rfl (lvar_part (l := [.int .i64 z22, .int .i64 z38, .int .i64 z54, .int .i64 z84, .int .i64 z108, .int .i64 z132, .int .i64 z156, .bool (z180 == 1), .slice eA es.length ec, .int .i64 z573, .int .i64 z574, .string z575, .string z576]) many26 hB636 rfl rfl (by decide)) resL_nil) rfl), eA, ec, A596, c597, by first | (rw [hres]; first | done | rfl | simp; done) | rfl, (by rw [hres]; exact (My.older h642 (by omega))), (by rw [hres]; exact h644), (by rw [hres]; exact hk601), (by rw [hres]; exact h646), (by exact Spec.readT_es), (by exact (Spec.readT_snap bl).1), (by exact (Spec.readT_snap bl).2), (Fr.transG (Fr.transG (Fr.transG (Fr.transG (Fr.trans (Fr.trans (Fr.transG (Fr.transG (Fr.transG (Fr.transG (Fr.transG (Fr.transG (Fr.transG (Fr.transG (Fr.transG (Fr.transG (Fr.transG (Fr.transG (Fr.transG (Fr.trans (Fr.transG (Fr.transG (Fr.transG (Fr.trans (Fr.refl (fun q => q = p) H) (hx6.fr fun _ => False) (fun q hq (e : False) => e.elim)) hx11 (fun q hq hE e => (e))) hx27 (fun q hq hE e => (e))) hx43 (fun q hq hE e => (e))) (hx62.fr fun _ => False) (fun q hq (e : False) => e.elim)) hf67 (fun q hq hE e => absurd hq (by omega))) hx73 (fun q hq hE e => (e))) hf92 (fun q hq hE e => absurd hq (by omega))) hx97 (fun q hq hE e => (e))) hf116 (fun q hq hE e => absurd hq (by omega))) hx121 (fun q hq hE e => (e))) hf140 (fun q hq hE e => absurd hq (by omega))) hx145 (fun q hq hE e => (e))) hf164 (fun q hq hE e => absurd hq (by omega))) hx169 (fun q hq hE e => (e))) hf188 (fun q hq hE e => absurd hq (by omega))) hx193 (fun q hq hE e => (e))) hxl216 (fun q hq hE e => Or.elim e (fun e => (e)) (fun e => absurd hq (by omega)))) (hx567.fr fun _ => False) (fun q hq (e : False) => e.elim)) (hx584.fr fun _ => False) (fun q hq (e : False) => e.elim)) hf589 (fun q hq hE e => absurd hq (by omega))) hx595 (fun q hq hE e => (e))) hf614 (fun q hq hE e => absurd hq (by omega))) hf638 (fun q hq hE e => absurd hq (by omega)))⟩
   ·
    rw [Bool.not_eq_true] at hc564; refine aw_condF hc564 rfl ?_
    try show aw _ _ _ _ _ _
    replace hc564 : bad2 = true := by rw [Bool.not_eq_false'] at hc564; exact hc564
    refine aw_skip ?_
    try show aw _ _ _ _ _ _
    refine aw_seq ?_
    refine aw_reg ?_
    refine st_op (ev_load rfl (lvar_part (l := [.int .i64 z22, .int .i64 z38, .int .i64 z54, .int .i64 z84, .int .i64 z108, .int .i64 z132, .int .i64 z156, .bool (z180 == 1), .slice eA es.length ec, .int .i64 0, .int .i64 0, .string (⟨#[]⟩), .string (⟨#[]⟩)]) many26 hB215 rfl rfl (by decide))) rfl rfl rfl ?_
    have h647 := Fr.blk hx11 (by omega) (fun e => (by omega)) hB5
    have h648 := Fr.blk hx27 (by omega) (fun e => (by omega)) h647
    have h649 := Fr.blk hx43 (by omega) (fun e => (by omega)) h648
    have h650 := Ext.blk hx69 (by omega) h649
    have h651 := Fr.blk hx73 (by omega) (fun e => (by omega)) h650
    have h652 := Fr.blk hf92 (by omega) (fun e => (by omega)) h651
    have h653 := Fr.blk hx97 (by omega) (fun e => (by omega)) h652
    have h654 := Fr.blk hf116 (by omega) (fun e => (by omega)) h653
    have h655 := Fr.blk hx121 (by omega) (fun e => (by omega)) h654
    have h656 := Fr.blk hf140 (by omega) (fun e => (by omega)) h655
    have h657 := Fr.blk hx145 (by omega) (fun e => (by omega)) h656
    have h658 := Fr.blk hf164 (by omega) (fun e => (by omega)) h657
    have h659 := Fr.blk hx169 (by omega) (fun e => (by omega)) h658
    have h660 := Fr.blk hf188 (by omega) (fun e => (by omega)) h659
    have h661 := Fr.blk hx193 (by omega) (fun e => (by omega)) h660
    have h662 := Fr.blk hxl216 (by omega) (fun e => Or.elim e (fun e => (by omega)) (fun e => (by omega))) h661
    obtain ⟨H663, he664, H663n_, hB665, f666⟩ := mem_store (v := .agg #[.int .i64 z22, .int .i64 z38, .int .i64 z54, .int .i64 z84, .int .i64 z108, .int .i64 z132, .int .i64 z156, .bool (z180 == 1), .slice eA es.length ec, .int .i64 0, .int .i64 0, .string (⟨#[]⟩), .string (⟨#[]⟩)]) (o := 0) (cs' := [.int .i64 z22, .int .i64 z38, .int .i64 z54, .int .i64 z84, .int .i64 z108, .int .i64 z132, .int .i64 z156, .bool (z180 == 1), .slice eA es.length ec, .int .i64 0, .int .i64 0, .string (⟨#[]⟩), .string (⟨#[]⟩)]) 13 rfl rfl size26 h662 rfl rfl rfl
    refine st_op0 (he664 _ _ _ _ _ _ _ _ _ rfl rfl) rfl rfl ?_
    have hf667 : Fr (fun q => q = b1) Hl207 H663 := Fr.write H663n_ f666
    have H663n : Hl207.next ≤ H663.next := hf667.1
    try show aw _ _ _ _ _ _
    refine aw_ret ?_
    have h668 := My.frS hm214 hf667 (fun q hq e => ⟨_, e ▸ h662, show (0 : Nat) ≠ 4 by decide⟩)
    have h669 := Row.fr hr209 hf667 (fun q hq e => ⟨_, e ▸ h662, show (0 : Nat) ≠ 1 by decide⟩)
    have h670 := Fr.blk hf667 (by omega) (fun e => (by omega)) hB211
    have hres : (Spec.readT l bad) = (z22, z38, z54, z84, z108, z132, z156, (z180 == 1), es, 0, 0, (⟨#[]⟩ : ByteArray), (⟨#[]⟩ : ByteArray), l2, bad2) := by have hend := Spec.readEs_end (f := f) (n := n) (l := l2) (bad := bad2) (es := es) (by omega) (by rintro ⟨h1, h2, h3⟩; first | omega | exact Bool.noConfusion (h2.symm.trans (show bad2 = true by assumption))); rw [Spec.readT_is hR21 hR37 hR53 hR83 hR107 hR131 hR155 hR179 hR203 (hq.trans hend)]; rw [if_neg (by rintro ⟨h1, h2⟩; first | exact absurd h1 (by assumption) | exact Bool.noConfusion (h2.symm.trans (show bad2 = true by assumption)))]
    exact ⟨.agg #[.int .i64 z22, .int .i64 z38, .int .i64 z54, .int .i64 z84, .int .i64 z108, .int .i64 z132, .int .i64 z156, .bool (z180 == 1), .slice eA es.length ec, .int .i64 0, .int .i64 0, .string (⟨#[]⟩), .string (⟨#[]⟩)], (resA_of (resL_cell rfl (lvar_part (l := [.int .i64 z22, .int .i64 z38, .int .i64 z54, .int .i64 z84, .int .i64 z108, .int .i64 z132, .int .i64 z156, .bool (z180 == 1), .slice eA es.length ec, .int .i64 0, .int .i64 0, .string (⟨#[]⟩), .string (⟨#[]⟩)]) many26 hB665 rfl rfl (by decide)) resL_nil) rfl), eA, ec, lA2, lc2, by first | (rw [hres]; first | done | rfl | simp; done) | rfl, (by rw [hres]; exact (My.older h668 (by omega))), (by rw [hres]; exact h669), (by rw [hres]; exact hr210), (by rw [hres]; exact h670), (by exact Spec.readT_es), (by exact (Spec.readT_snap bl).1), (by exact (Spec.readT_snap bl).2), (Fr.transG (Fr.transG (Fr.transG (Fr.transG (Fr.transG (Fr.transG (Fr.transG (Fr.transG (Fr.transG (Fr.transG (Fr.transG (Fr.transG (Fr.transG (Fr.transG (Fr.trans (Fr.transG (Fr.transG (Fr.transG (Fr.trans (Fr.refl (fun q => q = p) H) (hx6.fr fun _ => False) (fun q hq (e : False) => e.elim)) hx11 (fun q hq hE e => (e))) hx27 (fun q hq hE e => (e))) hx43 (fun q hq hE e => (e))) (hx62.fr fun _ => False) (fun q hq (e : False) => e.elim)) hf67 (fun q hq hE e => absurd hq (by omega))) hx73 (fun q hq hE e => (e))) hf92 (fun q hq hE e => absurd hq (by omega))) hx97 (fun q hq hE e => (e))) hf116 (fun q hq hE e => absurd hq (by omega))) hx121 (fun q hq hE e => (e))) hf140 (fun q hq hE e => absurd hq (by omega))) hx145 (fun q hq hE e => (e))) hf164 (fun q hq hE e => absurd hq (by omega))) hx169 (fun q hq hE e => (e))) hf188 (fun q hq hE e => absurd hq (by omega))) hx193 (fun q hq hE e => (e))) hxl216 (fun q hq hE e => Or.elim e (fun e => (e)) (fun e => absurd hq (by omega)))) hf667 (fun q hq hE e => absurd hq (by omega)))⟩
  ·
   have hb563 := ne_of_beq_false hb563
   iterate 5 refine st_skip rfl rfl rfl ?_
   refine st_op (ev_pickF rfl rfl) rfl rfl rfl ?_
   try show aw _ _ _ _ _ _
   refine aw_cond (t := false) rfl ?_
   try show aw _ _ _ _ _ _
   refine aw_skip ?_
   try show aw _ _ _ _ _ _
   refine aw_seq ?_
   refine aw_reg ?_
   refine st_op (ev_load rfl (lvar_part (l := [.int .i64 z22, .int .i64 z38, .int .i64 z54, .int .i64 z84, .int .i64 z108, .int .i64 z132, .int .i64 z156, .bool (z180 == 1), .slice eA es.length ec, .int .i64 0, .int .i64 0, .string (⟨#[]⟩), .string (⟨#[]⟩)]) many26 hB215 rfl rfl (by decide))) rfl rfl rfl ?_
   have h671 := Fr.blk hx11 (by omega) (fun e => (by omega)) hB5
   have h672 := Fr.blk hx27 (by omega) (fun e => (by omega)) h671
   have h673 := Fr.blk hx43 (by omega) (fun e => (by omega)) h672
   have h674 := Ext.blk hx69 (by omega) h673
   have h675 := Fr.blk hx73 (by omega) (fun e => (by omega)) h674
   have h676 := Fr.blk hf92 (by omega) (fun e => (by omega)) h675
   have h677 := Fr.blk hx97 (by omega) (fun e => (by omega)) h676
   have h678 := Fr.blk hf116 (by omega) (fun e => (by omega)) h677
   have h679 := Fr.blk hx121 (by omega) (fun e => (by omega)) h678
   have h680 := Fr.blk hf140 (by omega) (fun e => (by omega)) h679
   have h681 := Fr.blk hx145 (by omega) (fun e => (by omega)) h680
   have h682 := Fr.blk hf164 (by omega) (fun e => (by omega)) h681
   have h683 := Fr.blk hx169 (by omega) (fun e => (by omega)) h682
   have h684 := Fr.blk hf188 (by omega) (fun e => (by omega)) h683
   have h685 := Fr.blk hx193 (by omega) (fun e => (by omega)) h684
   have h686 := Fr.blk hxl216 (by omega) (fun e => Or.elim e (fun e => (by omega)) (fun e => (by omega))) h685
   obtain ⟨H687, he688, H687n_, hB689, f690⟩ := mem_store (v := .agg #[.int .i64 z22, .int .i64 z38, .int .i64 z54, .int .i64 z84, .int .i64 z108, .int .i64 z132, .int .i64 z156, .bool (z180 == 1), .slice eA es.length ec, .int .i64 0, .int .i64 0, .string (⟨#[]⟩), .string (⟨#[]⟩)]) (o := 0) (cs' := [.int .i64 z22, .int .i64 z38, .int .i64 z54, .int .i64 z84, .int .i64 z108, .int .i64 z132, .int .i64 z156, .bool (z180 == 1), .slice eA es.length ec, .int .i64 0, .int .i64 0, .string (⟨#[]⟩), .string (⟨#[]⟩)]) 13 rfl rfl size26 h686 rfl rfl rfl
   refine st_op0 (he688 _ _ _ _ _ _ _ _ _ rfl rfl) rfl rfl ?_
   have hf691 : Fr (fun q => q = b1) Hl207 H687 := Fr.write H687n_ f690
   have H687n : Hl207.next ≤ H687.next := hf691.1
   try show aw _ _ _ _ _ _
   refine aw_ret ?_
   have h692 := My.frS hm214 hf691 (fun q hq e => ⟨_, e ▸ h686, show (0 : Nat) ≠ 4 by decide⟩)
   have h693 := Row.fr hr209 hf691 (fun q hq e => ⟨_, e ▸ h686, show (0 : Nat) ≠ 1 by decide⟩)
   have h694 := Fr.blk hf691 (by omega) (fun e => (by omega)) hB211
   have hres : (Spec.readT l bad) = (z22, z38, z54, z84, z108, z132, z156, (z180 == 1), es, 0, 0, (⟨#[]⟩ : ByteArray), (⟨#[]⟩ : ByteArray), l2, bad2) := by have hend := Spec.readEs_end (f := f) (n := n) (l := l2) (bad := bad2) (es := es) (by omega) (by rintro ⟨h1, h2, h3⟩; first | omega | exact Bool.noConfusion (h2.symm.trans (show bad2 = true by assumption))); rw [Spec.readT_is hR21 hR37 hR53 hR83 hR107 hR131 hR155 hR179 hR203 (hq.trans hend)]; rw [if_neg (by rintro ⟨h1, h2⟩; first | exact absurd h1 (by assumption) | exact Bool.noConfusion (h2.symm.trans (show bad2 = true by assumption)))]
   exact ⟨.agg #[.int .i64 z22, .int .i64 z38, .int .i64 z54, .int .i64 z84, .int .i64 z108, .int .i64 z132, .int .i64 z156, .bool (z180 == 1), .slice eA es.length ec, .int .i64 0, .int .i64 0, .string (⟨#[]⟩), .string (⟨#[]⟩)], (resA_of (resL_cell rfl (lvar_part (l := [.int .i64 z22, .int .i64 z38, .int .i64 z54, .int .i64 z84, .int .i64 z108, .int .i64 z132, .int .i64 z156, .bool (z180 == 1), .slice eA es.length ec, .int .i64 0, .int .i64 0, .string (⟨#[]⟩), .string (⟨#[]⟩)]) many26 hB689 rfl rfl (by decide)) resL_nil) rfl), eA, ec, lA2, lc2, by first | (rw [hres]; first | done | rfl | simp; done) | rfl, (by rw [hres]; exact (My.older h692 (by omega))), (by rw [hres]; exact h693), (by rw [hres]; exact hr210), (by rw [hres]; exact h694), (by exact Spec.readT_es), (by exact (Spec.readT_snap bl).1), (by exact (Spec.readT_snap bl).2), (Fr.transG (Fr.transG (Fr.transG (Fr.transG (Fr.transG (Fr.transG (Fr.transG (Fr.transG (Fr.transG (Fr.transG (Fr.transG (Fr.transG (Fr.transG (Fr.transG (Fr.trans (Fr.transG (Fr.transG (Fr.transG (Fr.trans (Fr.refl (fun q => q = p) H) (hx6.fr fun _ => False) (fun q hq (e : False) => e.elim)) hx11 (fun q hq hE e => (e))) hx27 (fun q hq hE e => (e))) hx43 (fun q hq hE e => (e))) (hx62.fr fun _ => False) (fun q hq (e : False) => e.elim)) hf67 (fun q hq hE e => absurd hq (by omega))) hx73 (fun q hq hE e => (e))) hf92 (fun q hq hE e => absurd hq (by omega))) hx97 (fun q hq hE e => (e))) hf116 (fun q hq hE e => absurd hq (by omega))) hx121 (fun q hq hE e => (e))) hf140 (fun q hq hE e => absurd hq (by omega))) hx145 (fun q hq hE e => (e))) hf164 (fun q hq hE e => absurd hq (by omega))) hx169 (fun q hq hE e => (e))) hf188 (fun q hq hE e => absurd hq (by omega))) hx193 (fun q hq hE e => (e))) hxl216 (fun q hq hE e => Or.elim e (fun e => (e)) (fun e => absurd hq (by omega)))) hf691 (fun q hq hE e => absurd hq (by omega)))⟩
theorem raft_server_spec (H : Heap) (id : Int) : ∃ v H', Spec Try.prog 40 [.int .i64 id] H v H' ∧ ((v = .bool (decide (1 ≤ id ∧ id ≤ 7))) ∧ (Ext H H')) := by
 refine spec_go1 E0_ok 9 (f := 40) Try.func40 rfl rfl rfl ?_
 refine aw_seq ?_
 refine aw_reg ?_
 refine st_op (ev_assign rfl) rfl rfl rfl ?_
 try show aw _ _ _ _ _ _
 refine aw_seq ?_
 refine aw_reg ?_
 refine st_op (ev_move rfl) rfl rfl rfl ?_
 refine st_op (ev_int rfl rfl rfl) rfl rfl rfl ?_
 refine st_op (ev_move rfl) rfl rfl rfl ?_
 refine st_bool 5 rfl (fun hb1 => ?_) (fun hb1 => ?_)
 ·
  have hb1 := of_decide_eq_true hb1
  refine st_op (ev_move rfl) rfl rfl rfl ?_
  refine st_op (ev_int rfl rfl rfl) rfl rfl rfl ?_
  refine st_op (ev_pickT rfl rfl) rfl rfl rfl ?_
  refine st_op (ev_assign rfl) rfl rfl rfl ?_
  try show aw _ _ _ _ _ _
  refine aw_ret ?_
  have hres : (decide (1 ≤ id ∧ id ≤ 7)) = (decide (id ≤ 7)) := by simp_all <;> omega
  exact ⟨.bool (decide (id ≤ 7)), rfl, by first | (rw [hres]; done) | rw [← hres], (Ext.refl H)⟩
 ·
  have hb1 := of_decide_eq_false hb1
  iterate 2 refine st_skip rfl rfl rfl ?_
  refine st_op (ev_pickF rfl rfl) rfl rfl rfl ?_
  refine st_op (ev_assign rfl) rfl rfl rfl ?_
  try show aw _ _ _ _ _ _
  refine aw_ret ?_
  have hres : (decide (1 ≤ id ∧ id ≤ 7)) = false := by simp_all <;> omega
  exact ⟨.bool false, rfl, by first | (rw [hres]; done) | rw [← hres], (Ext.refl H)⟩
theorem raft_in_spec (H : Heap) (least : Int) (hleast : -9223372036854775808 ≤ least ∧ least ≤ 9223372036854775807) (lA : Option Addr) (l : List Int) (lc : Nat) (hl : Row H lA lc 1 (l.map i64c)) (cl : l.length ≤ lc) (ll : l.length ≤ 1099511627776) : ∃ v H', Spec Try.prog 41 [.int .i64 least, .slice lA l.length lc] H v H' ∧ ((v = .bool (Spec.inF least 1099511627776 l)) ∧ (Ext H H')) := by
 refine spec_go2 E0_ok 21 (f := 41) Try.func41 rfl rfl rfl ?_
 refine aw_seq ?_
 refine aw_reg ?_
 refine st_op (ev_assign rfl) rfl rfl rfl ?_
 try show aw _ _ _ _ _ _
 iterate 2 refine aw_seq ?_
 refine aw_reg ?_
 refine st_op (ev_move rfl) rfl rfl rfl ?_
 refine st_op (ev_lenSl rfl Try.underlying77) rfl rfl rfl ?_
 refine st_op (ev_move rfl) rfl rfl rfl ?_
 try show aw _ _ _ _ _ _
 refine aw_block ?_
 refine aw_keep [0, 7, 8, 9] (l' := (.cons 0 (.int .i64 least) (.cons 7 (.slice lA l.length lc) (.cons 8 (.int .i64 (l.length : Int)) (.cons 9 (.int .i64 0) .nil))))) (by repeat (first | exact Up.done | refine Up.then ?_ | refine Up.inBlock ?_)) rfl ?_
 refine aw_iter (α := Nat × Heap) (fun a => l.length - a.1) (fun a => (.cons 0 (.int .i64 least) (.cons 7 (.slice lA l.length lc) (.cons 8 (.int .i64 (l.length : Int)) (.cons 9 (.int .i64 (a.1 : Int)) .nil))))) (fun a => a.2) (fun a => (a.1 ≤ l.length) ∧ (Spec.inF least 1099511627776 l = Spec.inF least 1099511627776 (l.drop a.1)) ∧ (Ext H a.2)) (0, H) ⟨(show 0 ≤ l.length from Nat.zero_le _), (show Spec.inF least 1099511627776 l = Spec.inF least 1099511627776 (l.drop 0) from rfl), (show Ext H H from (Ext.refl H))⟩ ?_
 rintro ⟨i, Hl1⟩ ⟨hi, hv, hxl2⟩ ih3
 replace hi : i ≤ l.length := hi
 replace hv : Spec.inF least 1099511627776 l = Spec.inF least 1099511627776 (l.drop i) := hv
 replace hxl2 : Ext H Hl1 := hxl2
 show aw _ _ _ (RL _ (.cons 0 (.int .i64 least) (.cons 7 (.slice lA l.length lc) (.cons 8 (.int .i64 (l.length : Int)) (.cons 9 (.int .i64 (i : Int)) .nil))))) Hl1 _
 have Hl1n : H.next ≤ Hl1.next := hxl2.1
 refine aw_seq ?_
 refine aw_reg ?_
 refine st_op (ev_int rfl rfl rfl) rfl rfl rfl ?_
 try show aw _ _ _ _ _ _
 refine aw_seq ?_
 by_cases hc4 : (decide ((i : Int) < (l.length : Int))) = true
 ·
  refine aw_condT hc4 rfl ?_
  try show aw _ _ _ _ _ _
  have hc4 := of_decide_eq_true hc4
  refine aw_skip ?_
  try show aw _ _ _ _ _ _
  refine aw_seq ?_
  refine aw_block ?_
  refine aw_seq ?_
  refine aw_reg ?_
  have h5 := Row.ext hl hxl2
  have hi6 : 0 ≤ ((i : Int) : Int) := by omega
  have hi7 : ((i : Int) : Int) < ((l.length : Nat) : Int) := by omega
  obtain ⟨x8, hx9⟩ : ∃ e, l[i]? = some e := ⟨_, List.getElem?_eq_getElem (by omega)⟩
  refine st_op (ev_at rfl rfl h5 (getMap i64c hx9) (by first | rfl | omega | simp) hi6 hi7 el77) rfl rfl rfl ?_
  refine st_op (ev_atL rfl h5 (getMap i64c hx9) one2 rfl) rfl rfl rfl ?_
  refine st_op (ev_assign rfl) rfl rfl rfl ?_
  try show aw _ _ _ _ _ _
  refine aw_seq ?_
  refine aw_reg ?_
  iterate 2 refine st_op (ev_move rfl) rfl rfl rfl ?_
  refine st_op (ev_int rfl rfl rfl) rfl rfl rfl ?_
  refine st_op (ev_move rfl) rfl rfl rfl ?_
  refine st_bool 16 rfl (fun hb10 => ?_) (fun hb10 => ?_)
  ·
   have hb10 := of_decide_eq_true hb10
   iterate 2 refine st_skip rfl rfl rfl ?_
   refine st_op (ev_pickT rfl rfl) rfl rfl rfl ?_
   try show aw _ _ _ _ _ _
   refine aw_cond (t := true) rfl ?_
   try show aw _ _ _ _ _ _
   refine aw_seq ?_
   refine aw_reg ?_
   refine st_op (ev_assign rfl) rfl rfl rfl ?_
   try show aw _ _ _ _ _ _
   refine aw_ret ?_
   have hres : (Spec.inF least 1099511627776 l) = false := by rw [hv, drop_at hx9, Spec.inF]; first | (rw [if_pos (by omega)]; done) | (rw [if_neg (by omega), if_pos (by omega)]; done)
   exact ⟨.bool false, rfl, by first | (rw [hres]; done) | rw [← hres], hxl2⟩
  ·
   have hb10 := of_decide_eq_false hb10
   refine st_op (ev_move rfl) rfl rfl rfl ?_
   refine st_op (ev_int rfl rfl rfl) rfl rfl rfl ?_
   refine st_op (ev_pickF rfl rfl) rfl rfl rfl ?_
   try show aw _ _ _ _ _ _
   by_cases hc11 : (decide (x8 > 1099511627776)) = true
   ·
    refine aw_condT hc11 rfl ?_
    try show aw _ _ _ _ _ _
    have hc11 := of_decide_eq_true hc11
    refine aw_seq ?_
    refine aw_reg ?_
    refine st_op (ev_assign rfl) rfl rfl rfl ?_
    try show aw _ _ _ _ _ _
    refine aw_ret ?_
    have hres : (Spec.inF least 1099511627776 l) = false := by rw [hv, drop_at hx9, Spec.inF]; first | (rw [if_pos (by omega)]; done) | (rw [if_neg (by omega), if_pos (by omega)]; done)
    exact ⟨.bool false, rfl, by first | (rw [hres]; done) | rw [← hres], hxl2⟩
   ·
    rw [Bool.not_eq_true] at hc11; refine aw_condF hc11 rfl ?_
    try show aw _ _ _ _ _ _
    have hc11 := of_decide_eq_false hc11
    refine aw_skip ?_
    try show aw _ _ _ _ _ _
    refine aw_reg ?_
    refine st_op (ev_int64 (c := (i : Int) + 1) rfl rfl rfl (by omega) (by omega)) rfl rfl rfl ?_
    refine st_op (ev_move rfl) rfl rfl rfl ?_
    try show aw _ _ _ _ _ _
    refine aw_keep [0, 7, 8, 9] (l' := (.cons 0 (.int .i64 least) (.cons 7 (.slice lA l.length lc) (.cons 8 (.int .i64 (l.length : Int)) (.cons 9 (.int .i64 ((i : Int) + 1)) .nil))))) (by repeat (first | exact Up.done | refine Up.then ?_ | refine Up.inBlock ?_)) rfl ?_
    exact ih3 (i + 1, Hl1) ⟨(show (i + 1) ≤ l.length from (by omega)), (show Spec.inF least 1099511627776 l = Spec.inF least 1099511627776 (l.drop (i + 1)) from (by rw [hv, drop_at hx9, Spec.inF, if_neg (by omega), if_neg (by omega)])), (show Ext H Hl1 from hxl2)⟩ (by simp only; omega)
 ·
  rw [Bool.not_eq_true] at hc4; refine aw_condF hc4 rfl ?_
  try show aw _ _ _ _ _ _
  have hc4 := of_decide_eq_false hc4
  refine aw_exit ?_
  try show aw _ _ _ _ _ _
  refine aw_seq ?_
  refine aw_reg ?_
  refine st_op (ev_assign rfl) rfl rfl rfl ?_
  try show aw _ _ _ _ _ _
  refine aw_ret ?_
  have hres : (Spec.inF least 1099511627776 l) = true := by rw [hv, List.drop_eq_nil_of_le (by omega)]; rfl
  exact ⟨.bool true, rfl, by first | (rw [hres]; done) | rw [← hres], hxl2⟩
theorem raft_entries_spec (H : Heap) (kind : Int) (from_ : Int) (to_ : Int) (term : Int) (index : Int) (hindex : 0 ≤ index ∧ index ≤ 1099511627776) (logterm : Int) (commit : Int) (yes : Bool) (esA : Option Addr) (es : List Entry) (esc : Nat) (hes : Row H esA esc 4 (es.map Entry.cells)) (ces : es.length ≤ esc) (les : es.length ≤ 1048576) (s_index : Int) (s_term : Int) (s_conf : ByteArray) (hs_conf : s_conf.size ≤ 1073741824) (s_data : ByteArray) (hs_data : s_data.size ≤ 1073741824) : ∃ v H', Spec Try.prog 42 [.agg #[.int .i64 kind, .int .i64 from_, .int .i64 to_, .int .i64 term, .int .i64 index, .int .i64 logterm, .int .i64 commit, .bool yes, .slice esA es.length esc, .int .i64 s_index, .int .i64 s_term, .string s_conf, .string s_data]] H v H' ∧ ((v = .bool (Spec.entR term index logterm es && decide (es.length ≤ 8 ∧ (es.length = 0 ∨ kind = 3)))) ∧ (Ext H H')) := by
 refine spec_go1 E0_ok 62 (f := 42) Try.func42 rfl rfl rfl ?_
 refine aw_seq ?_
 refine aw_reg ?_
 obtain ⟨b1, H2, he3, b1e, H2n_, hB5, f4⟩ := mem_box (P := Try.prog) H (v := .agg #[.int .i64 kind, .int .i64 from_, .int .i64 to_, .int .i64 term, .int .i64 index, .int .i64 logterm, .int .i64 commit, .bool yes, .slice esA es.length esc, .int .i64 s_index, .int .i64 s_term, .string s_conf, .string s_data]) (cs := [.int .i64 kind, .int .i64 from_, .int .i64 to_, .int .i64 term, .int .i64 index, .int .i64 logterm, .int .i64 commit, .bool yes, .slice esA es.length esc, .int .i64 s_index, .int .i64 s_term, .string s_conf, .string s_data]) rfl rfl
 refine st_op (he3 _ _ _ _ _ _ _ _ _ rfl) rfl rfl rfl ?_
 have hx6 : Ext H H2 := Ext.new (by omega) H2n_ f4
 have H2n : H.next ≤ H2.next := hx6.1
 refine st_op (ev_assign rfl) rfl rfl rfl ?_
 try show aw _ _ _ _ _ _
 refine aw_seq ?_
 refine aw_marks (fun b => b < H2.next) [(false, false), (false, false), (false, false), (false, false), (false, false), (false, false)] mixed (by kernel_rfl) (by kernel_rfl) ?_
 refine sm_op (ev_fieldAddr rfl fa26_4 (o' := 4) rfl) rfl rfl rfl ?_
 refine sm_op (ev_load rfl (lvar_one one2 hB5 rfl)) rfl rfl rfl ?_
 refine sm_op (ev_fieldAddr rfl fa26_5 (o' := 5) rfl) rfl rfl rfl ?_
 refine sm_op (ev_load rfl (lvar_one one2 hB5 rfl)) rfl rfl rfl ?_
 iterate 2 refine sm_op (ev_assign rfl) rfl rfl rfl ?_
 try show aw _ _ _ _ _ _
 iterate 2 refine aw_seq ?_
 refine aw_reg ?_
 refine st_op (ev_fieldAddr rfl fa26_8 (o' := 8) rfl) rfl rfl rfl ?_
 refine st_op (ev_load rfl (lvar_one one22 hB5 rfl)) rfl rfl rfl ?_
 refine st_op (ev_lenSl rfl Try.underlying22) rfl rfl rfl ?_
 refine st_op (ev_move rfl) rfl rfl rfl ?_
 try show aw _ _ _ _ _ _
 refine aw_block ?_
 refine aw_keep [1, 3, 4, 12, 13, 14] (l' := (.cons 1 (.pointer (some ⟨b1, 0, none⟩)) (.cons 3 (.int .i64 index) (.cons 4 (.int .i64 logterm) (.cons 12 (.slice esA es.length esc) (.cons 13 (.int .i64 (es.length : Int)) (.cons 14 (.int .i64 0) .nil))))))) (by repeat (first | exact Up.done | refine Up.then ?_ | refine Up.inBlock ?_)) rfl ?_
 refine aw_iter (α := Nat × Int × Int × Heap) (fun a => es.length - a.1) (fun a => (.cons 1 (.pointer (some ⟨b1, 0, none⟩)) (.cons 3 (.int .i64 a.2.1) (.cons 4 (.int .i64 a.2.2.1) (.cons 12 (.slice esA es.length esc) (.cons 13 (.int .i64 (es.length : Int)) (.cons 14 (.int .i64 (a.1 : Int)) .nil))))))) (fun a => a.2.2.2) (fun a => (a.1 ≤ es.length) ∧ (Spec.entR term index logterm es = Spec.entR term a.2.1 a.2.2.1 (es.drop a.1)) ∧ (0 ≤ a.2.1 ∧ a.2.1 ≤ 1099511627776) ∧ (Ext H2 a.2.2.2)) (0, index, logterm, H2) ⟨(show 0 ≤ es.length from Nat.zero_le _), (show Spec.entR term index logterm es = Spec.entR term index logterm (es.drop 0) from rfl), (show 0 ≤ index ∧ index ≤ 1099511627776 from ⟨by omega, by omega⟩), (show Ext H2 H2 from (Ext.refl H2))⟩ ?_
 rintro ⟨i, ix, tm, Hl7⟩ ⟨hi, hv, hn8, hxl9⟩ ih10
 replace hi : i ≤ es.length := hi
 replace hv : Spec.entR term index logterm es = Spec.entR term ix tm (es.drop i) := hv
 replace hn8 : 0 ≤ ix ∧ ix ≤ 1099511627776 := hn8
 replace hxl9 : Ext H2 Hl7 := hxl9
 show aw _ _ _ (RL _ (.cons 1 (.pointer (some ⟨b1, 0, none⟩)) (.cons 3 (.int .i64 ix) (.cons 4 (.int .i64 tm) (.cons 12 (.slice esA es.length esc) (.cons 13 (.int .i64 (es.length : Int)) (.cons 14 (.int .i64 (i : Int)) .nil))))))) Hl7 _
 have Hl7n : H2.next ≤ Hl7.next := hxl9.1
 refine aw_seq ?_
 refine aw_reg ?_
 refine st_op (ev_int rfl rfl rfl) rfl rfl rfl ?_
 try show aw _ _ _ _ _ _
 refine aw_seq ?_
 by_cases hc11 : (decide ((i : Int) < (es.length : Int))) = true
 ·
  refine aw_condT hc11 rfl ?_
  try show aw _ _ _ _ _ _
  have hc11 := of_decide_eq_true hc11
  refine aw_skip ?_
  try show aw _ _ _ _ _ _
  refine aw_seq ?_
  refine aw_block ?_
  refine aw_seq ?_
  refine aw_reg ?_
  have hx13 : Ext H Hl7 := (Ext.trans hx6 hxl9)
  have h12 := Row.ext hes hx13
  have hi14 : 0 ≤ ((i : Int) : Int) := by omega
  have hi15 : ((i : Int) : Int) < ((es.length : Nat) : Int) := by omega
  obtain ⟨x16, hx17⟩ : ∃ e, es[i]? = some e := ⟨_, List.getElem?_eq_getElem (by omega)⟩
  refine st_op (ev_at rfl rfl h12 (getMap Entry.cells hx17) (by first | rfl | omega | simp) hi14 hi15 el22) rfl rfl rfl ?_
  refine st_op (ev_atN (cs := [.int .i64 x16.index, .int .i64 x16.term, .int .i64 x16.kind, .string x16.data]) rfl h12 (getMap Entry.cells hx17) many45 rfl rfl (by decide)) rfl rfl rfl ?_
  obtain ⟨b18, H19, he20, b18e, H19n_, hB22, f21⟩ := mem_alloc Hl7 zero45
  refine st_op (he20 _ _ _ _ _ _ _) rfl rfl rfl ?_
  have hx23 : Ext Hl7 H19 := Ext.new (by omega) H19n_ f21
  have H19n : Hl7.next ≤ H19.next := hx23.1
  obtain ⟨H24, he25, H24n_, hB26, f27⟩ := mem_store (v := .agg #[.int .i64 x16.index, .int .i64 x16.term, .int .i64 x16.kind, .string x16.data]) (o := 0) (cs' := [.int .i64 x16.index, .int .i64 x16.term, .int .i64 x16.kind, .string x16.data]) 4 rfl rfl size45 hB22 rfl rfl rfl
  refine st_op0 (he25 _ _ _ _ _ _ _ _ _ rfl rfl) rfl rfl ?_
  have hf28 : Fr (fun q => q = b18) H19 H24 := Fr.write H24n_ f27
  have H24n : H19.next ≤ H24.next := hf28.1
  try show aw _ _ _ _ _ _
  iterate 2 refine aw_seq ?_
  refine aw_reg ?_
  refine st_op (ev_fieldAddr rfl fa45_0 (o' := 0) rfl) rfl rfl rfl ?_
  refine st_op (ev_load rfl (lvar_one one2 hB26 rfl)) rfl rfl rfl ?_
  refine st_op (ev_move rfl) rfl rfl rfl ?_
  refine st_op (ev_int64 (c := ix + 1) rfl rfl rfl (by omega) (by omega)) rfl rfl rfl ?_
  refine st_op (ev_int rfl rfl rfl) rfl rfl rfl ?_
  refine st_op (ev_move rfl) rfl rfl rfl ?_
  refine st_bool 23 rfl (fun hb29 => ?_) (fun hb29 => ?_)
  ·
   have hb29 : ¬ (x16.index = ix + 1) := by simpa using hb29
   iterate 4 refine st_skip rfl rfl rfl ?_
   refine st_op (ev_pickT rfl rfl) rfl rfl rfl ?_
   refine st_op (ev_move rfl) rfl rfl rfl ?_
   iterate 5 refine st_skip rfl rfl rfl ?_
   refine st_op (ev_pickT rfl rfl) rfl rfl rfl ?_
   refine st_op (ev_move rfl) rfl rfl rfl ?_
   iterate 4 refine st_skip rfl rfl rfl ?_
   refine st_op (ev_pickT rfl rfl) rfl rfl rfl ?_
   try show aw _ _ _ _ _ _
   refine aw_cond (t := true) rfl ?_
   try show aw _ _ _ _ _ _
   refine aw_seq ?_
   refine aw_reg ?_
   refine st_op (ev_assign rfl) rfl rfl rfl ?_
   try show aw _ _ _ _ _ _
   refine aw_ret ?_
   have hx30 : Ext H H24 := (Ext.then (Ext.trans hx13 hx23) hf28 (fun q hq e => by omega))
   have hres : (Spec.entR term index logterm es && decide (es.length ≤ 8 ∧ (es.length = 0 ∨ kind = 3))) = false := by first | (rw [hv, drop_at hx17, Spec.entR, if_pos (by first | exact .inl (by omega) | exact .inr (.inl (by omega)) | exact .inr (.inr (.inl (by omega))) | exact .inr (.inr (.inr (by assumption))))]; rfl) | (rw [hv, List.drop_eq_nil_of_le (by omega), Spec.entR, Bool.eq_iff_iff]; simp only [Bool.true_and, decide_eq_true_eq, beq_iff_eq, Bool.false_eq_true, iff_true, iff_false]; omega)
   exact ⟨.bool false, rfl, by first | (rw [hres]; done) | rw [← hres], hx30⟩
  ·
   have hb29 : (x16.index = ix + 1) := by simpa using hb29
   refine st_op (ev_fieldAddr rfl fa45_1 (o' := 1) rfl) rfl rfl rfl ?_
   refine st_op (ev_load rfl (lvar_one one2 hB26 rfl)) rfl rfl rfl ?_
   refine st_op (ev_move rfl) rfl rfl rfl ?_
   refine st_op (ev_int rfl rfl rfl) rfl rfl rfl ?_
   refine st_op (ev_pickF rfl rfl) rfl rfl rfl ?_
   refine st_op (ev_move rfl) rfl rfl rfl ?_
   refine st_bool 29 rfl (fun hb31 => ?_) (fun hb31 => ?_)
   ·
    have hb31 := of_decide_eq_true hb31
    iterate 5 refine st_skip rfl rfl rfl ?_
    refine st_op (ev_pickT rfl rfl) rfl rfl rfl ?_
    refine st_op (ev_move rfl) rfl rfl rfl ?_
    iterate 4 refine st_skip rfl rfl rfl ?_
    refine st_op (ev_pickT rfl rfl) rfl rfl rfl ?_
    try show aw _ _ _ _ _ _
    refine aw_cond (t := true) rfl ?_
    try show aw _ _ _ _ _ _
    refine aw_seq ?_
    refine aw_reg ?_
    refine st_op (ev_assign rfl) rfl rfl rfl ?_
    try show aw _ _ _ _ _ _
    refine aw_ret ?_
    have hx32 : Ext H H24 := (Ext.then (Ext.trans hx13 hx23) hf28 (fun q hq e => by omega))
    have hres : (Spec.entR term index logterm es && decide (es.length ≤ 8 ∧ (es.length = 0 ∨ kind = 3))) = false := by first | (rw [hv, drop_at hx17, Spec.entR, if_pos (by first | exact .inl (by omega) | exact .inr (.inl (by omega)) | exact .inr (.inr (.inl (by omega))) | exact .inr (.inr (.inr (by assumption))))]; rfl) | (rw [hv, List.drop_eq_nil_of_le (by omega), Spec.entR, Bool.eq_iff_iff]; simp only [Bool.true_and, decide_eq_true_eq, beq_iff_eq, Bool.false_eq_true, iff_true, iff_false]; omega)
    exact ⟨.bool false, rfl, by first | (rw [hres]; done) | rw [← hres], hx32⟩
   ·
    have hb31 := of_decide_eq_false hb31
    refine st_op (ev_fieldAddr rfl fa45_1 (o' := 1) rfl) rfl rfl rfl ?_
    refine st_op (ev_load rfl (lvar_one one2 hB26 rfl)) rfl rfl rfl ?_
    refine st_op (ev_fieldAddr rfl fa26_3 (o' := 3) rfl) rfl rfl rfl ?_
    have hx34 : Ext H2 H24 := (Ext.then (Ext.trans hxl9 hx23) hf28 (fun q hq e => by omega))
    have h33 := Ext.blk hx34 (by omega) hB5
    refine st_op (ev_load rfl (lvar_one one2 h33 rfl)) rfl rfl rfl ?_
    refine st_op (ev_int rfl rfl rfl) rfl rfl rfl ?_
    refine st_op (ev_pickF rfl rfl) rfl rfl rfl ?_
    refine st_op (ev_move rfl) rfl rfl rfl ?_
    refine st_bool 36 rfl (fun hb35 => ?_) (fun hb35 => ?_)
    ·
     have hb35 := of_decide_eq_true hb35
     iterate 4 refine st_skip rfl rfl rfl ?_
     refine st_op (ev_pickT rfl rfl) rfl rfl rfl ?_
     try show aw _ _ _ _ _ _
     refine aw_cond (t := true) rfl ?_
     try show aw _ _ _ _ _ _
     refine aw_seq ?_
     refine aw_reg ?_
     refine st_op (ev_assign rfl) rfl rfl rfl ?_
     try show aw _ _ _ _ _ _
     refine aw_ret ?_
     have hx36 : Ext H H24 := (Ext.then (Ext.trans hx13 hx23) hf28 (fun q hq e => by omega))
     have hres : (Spec.entR term index logterm es && decide (es.length ≤ 8 ∧ (es.length = 0 ∨ kind = 3))) = false := by first | (rw [hv, drop_at hx17, Spec.entR, if_pos (by first | exact .inl (by omega) | exact .inr (.inl (by omega)) | exact .inr (.inr (.inl (by omega))) | exact .inr (.inr (.inr (by assumption))))]; rfl) | (rw [hv, List.drop_eq_nil_of_le (by omega), Spec.entR, Bool.eq_iff_iff]; simp only [Bool.true_and, decide_eq_true_eq, beq_iff_eq, Bool.false_eq_true, iff_true, iff_false]; omega)
     exact ⟨.bool false, rfl, by first | (rw [hres]; done) | rw [← hres], hx36⟩
    ·
     have hb35 := of_decide_eq_false hb35
     refine st_op (ev_load rfl (lvar_part (l := [.int .i64 x16.index, .int .i64 x16.term, .int .i64 x16.kind, .string x16.data]) many45 hB26 rfl rfl (by decide))) rfl rfl rfl ?_
     refine st_op (ev_build zero82 pl82 (parts := [(2, .agg #[.int .i64 x16.index, .int .i64 x16.term, .int .i64 x16.kind, .string x16.data])]) rfl (cs := [.bool false, .int .i64 0, .int .i64 0, .int .i64 x16.index, .int .i64 x16.term, .int .i64 x16.kind, .string x16.data]) rfl) rfl rfl rfl ?_
     refine st_call rfl rfl rfl ent58 rfl rfl rfl ?_
     obtain ⟨_, H38, hs37, hs37v, hx39⟩ := wal_May_spec H24 false (0 : Int) (0 : Int) x16.index x16.term x16.kind x16.data
     rw [hs37v] at hs37; clear hs37v
     refine ⟨_, H38, hs37, ?_⟩
     have H38n : H24.next ≤ H38.next := hx39.1
     refine st_op (ev_not rfl) rfl rfl rfl ?_
     refine st_op (ev_pickF rfl rfl) rfl rfl rfl ?_
     try show aw _ _ _ _ _ _
     by_cases hc40 : (!(Spec.mayF false (0 : Int) (0 : Int) x16.index x16.term x16.kind x16.data)) = true
     ·
      refine aw_condT hc40 rfl ?_
      try show aw _ _ _ _ _ _
      replace hc40 : (Spec.mayF false (0 : Int) (0 : Int) x16.index x16.term x16.kind x16.data) = false := by rw [Bool.not_eq_true'] at hc40; exact hc40
      refine aw_seq ?_
      refine aw_reg ?_
      refine st_op (ev_assign rfl) rfl rfl rfl ?_
      try show aw _ _ _ _ _ _
      refine aw_ret ?_
      have hx41 : Ext H H38 := (Ext.trans (Ext.then (Ext.trans hx13 hx23) hf28 (fun q hq e => by omega)) hx39)
      have hres : (Spec.entR term index logterm es && decide (es.length ≤ 8 ∧ (es.length = 0 ∨ kind = 3))) = false := by first | (rw [hv, drop_at hx17, Spec.entR, if_pos (by first | exact .inl (by omega) | exact .inr (.inl (by omega)) | exact .inr (.inr (.inl (by omega))) | exact .inr (.inr (.inr (by assumption))))]; rfl) | (rw [hv, List.drop_eq_nil_of_le (by omega), Spec.entR, Bool.eq_iff_iff]; simp only [Bool.true_and, decide_eq_true_eq, beq_iff_eq, Bool.false_eq_true, iff_true, iff_false]; omega)
      exact ⟨.bool false, rfl, by first | (rw [hres]; done) | rw [← hres], hx41⟩
     ·
      rw [Bool.not_eq_true] at hc40; refine aw_condF hc40 rfl ?_
      try show aw _ _ _ _ _ _
      replace hc40 : (Spec.mayF false (0 : Int) (0 : Int) x16.index x16.term x16.kind x16.data) = true := by rw [Bool.not_eq_false'] at hc40; exact hc40
      have hc40m := Spec.may_says hc40
      refine aw_skip ?_
      try show aw _ _ _ _ _ _
      refine aw_marks (fun b => b < H38.next) [(false, false), (false, false), (false, false), (false, false), (false, false), (false, false)] mixed (by kernel_rfl) (by kernel_rfl) ?_
      refine sm_op (ev_fieldAddr rfl fa45_0 (o' := 0) rfl) rfl rfl rfl ?_
      have h42 := Ext.blk hx39 (by omega) hB26
      refine sm_op (ev_load rfl (lvar_one one2 h42 rfl)) rfl rfl rfl ?_
      refine sm_op (ev_fieldAddr rfl fa45_1 (o' := 1) rfl) rfl rfl rfl ?_
      refine sm_op (ev_load rfl (lvar_one one2 h42 rfl)) rfl rfl rfl ?_
      iterate 2 refine sm_op (ev_assign rfl) rfl rfl rfl ?_
      try show aw _ _ _ _ _ _
      refine aw_reg ?_
      refine st_op (ev_int64 (c := (i : Int) + 1) rfl rfl rfl (by omega) (by omega)) rfl rfl rfl ?_
      refine st_op (ev_move rfl) rfl rfl rfl ?_
      try show aw _ _ _ _ _ _
      have hx43 : Ext H2 H38 := (Ext.trans hx34 hx39)
      refine aw_keep [1, 3, 4, 12, 13, 14] (l' := (.cons 1 (.pointer (some ⟨b1, 0, none⟩)) (.cons 3 (.int .i64 x16.index) (.cons 4 (.int .i64 x16.term) (.cons 12 (.slice esA es.length esc) (.cons 13 (.int .i64 (es.length : Int)) (.cons 14 (.int .i64 ((i : Int) + 1)) .nil))))))) (by repeat (first | exact Up.done | refine Up.then ?_ | refine Up.inBlock ?_)) rfl ?_
      exact ih10 (i + 1, x16.index, x16.term, H38) ⟨(show (i + 1) ≤ es.length from (by omega)), (show Spec.entR term index logterm es = Spec.entR term x16.index x16.term (es.drop (i + 1)) from (by rw [hv, drop_at hx17, Spec.entR, if_neg (fun q => by rcases q with q | q | q | q <;> first | omega | exact Bool.noConfusion (q.symm.trans (show _ = true by assumption)))])), (show 0 ≤ x16.index ∧ x16.index ≤ 1099511627776 from ⟨by omega, by omega⟩), (show Ext H2 H38 from hx43)⟩ (by simp only; omega)
 ·
  rw [Bool.not_eq_true] at hc11; refine aw_condF hc11 rfl ?_
  try show aw _ _ _ _ _ _
  have hc11 := of_decide_eq_false hc11
  refine aw_exit ?_
  try show aw _ _ _ _ _ _
  refine aw_seq ?_
  refine aw_reg ?_
  refine st_op (ev_fieldAddr rfl fa26_8 (o' := 8) rfl) rfl rfl rfl ?_
  have h44 := Ext.blk hxl9 (by omega) hB5
  refine st_op (ev_load rfl (lvar_one one22 h44 rfl)) rfl rfl rfl ?_
  refine st_op (ev_lenSl rfl Try.underlying22) rfl rfl rfl ?_
  refine st_op (ev_int rfl rfl rfl) rfl rfl rfl ?_
  refine st_op (ev_move rfl) rfl rfl rfl ?_
  refine st_bool 51 rfl (fun hb45 => ?_) (fun hb45 => ?_)
  ·
   have hb45 := of_decide_eq_true hb45
   refine st_op (ev_fieldAddr rfl fa26_8 (o' := 8) rfl) rfl rfl rfl ?_
   refine st_op (ev_load rfl (lvar_one one22 h44 rfl)) rfl rfl rfl ?_
   refine st_op (ev_lenSl rfl Try.underlying22) rfl rfl rfl ?_
   refine st_op (ev_int rfl rfl rfl) rfl rfl rfl ?_
   refine st_op (ev_move rfl) rfl rfl rfl ?_
   refine st_bool 56 rfl (fun hb46 => ?_) (fun hb46 => ?_)
   ·
    have hb46 := eq_of_beq hb46
    iterate 3 refine st_skip rfl rfl rfl ?_
    iterate 2 refine st_op (ev_pickT rfl rfl) rfl rfl rfl ?_
    refine st_op (ev_assign rfl) rfl rfl rfl ?_
    try show aw _ _ _ _ _ _
    refine aw_ret ?_
    have hx47 : Ext H Hl7 := (Ext.trans hx6 hxl9)
    have hres : (Spec.entR term index logterm es && decide (es.length ≤ 8 ∧ (es.length = 0 ∨ kind = 3))) = true := by first | (rw [hv, drop_at hx17, Spec.entR, if_pos (by first | exact .inl (by omega) | exact .inr (.inl (by omega)) | exact .inr (.inr (.inl (by omega))) | exact .inr (.inr (.inr (by assumption))))]; rfl) | (rw [hv, List.drop_eq_nil_of_le (by omega), Spec.entR, Bool.eq_iff_iff]; simp only [Bool.true_and, decide_eq_true_eq, beq_iff_eq, Bool.false_eq_true, iff_true, iff_false]; omega)
    exact ⟨.bool true, rfl, by first | (rw [hres]; done) | rw [← hres], hx47⟩
   ·
    have hb46 := ne_of_beq_false hb46
    refine st_op (ev_fieldAddr rfl fa26_0 (o' := 0) rfl) rfl rfl rfl ?_
    refine st_op (ev_load rfl (lvar_one one3 h44 rfl)) rfl rfl rfl ?_
    refine st_op (ev_int rfl rfl rfl) rfl rfl rfl ?_
    refine st_op (ev_pickF rfl rfl) rfl rfl rfl ?_
    refine st_op (ev_pickT rfl rfl) rfl rfl rfl ?_
    refine st_op (ev_assign rfl) rfl rfl rfl ?_
    try show aw _ _ _ _ _ _
    refine aw_ret ?_
    have hx48 : Ext H Hl7 := (Ext.trans hx6 hxl9)
    have hres : (Spec.entR term index logterm es && decide (es.length ≤ 8 ∧ (es.length = 0 ∨ kind = 3))) = (kind == 3) := by first | (rw [hv, drop_at hx17, Spec.entR, if_pos (by first | exact .inl (by omega) | exact .inr (.inl (by omega)) | exact .inr (.inr (.inl (by omega))) | exact .inr (.inr (.inr (by assumption))))]; rfl) | (rw [hv, List.drop_eq_nil_of_le (by omega), Spec.entR, Bool.eq_iff_iff]; simp only [Bool.true_and, decide_eq_true_eq, beq_iff_eq, Bool.false_eq_true, iff_true, iff_false]; omega)
    exact ⟨.bool (kind == 3), rfl, by first | (rw [hres]; done) | rw [← hres], hx48⟩
  ·
   have hb45 := of_decide_eq_false hb45
   iterate 9 refine st_skip rfl rfl rfl ?_
   refine st_op (ev_pickF rfl rfl) rfl rfl rfl ?_
   refine st_op (ev_assign rfl) rfl rfl rfl ?_
   try show aw _ _ _ _ _ _
   refine aw_ret ?_
   have hx49 : Ext H Hl7 := (Ext.trans hx6 hxl9)
   have hres : (Spec.entR term index logterm es && decide (es.length ≤ 8 ∧ (es.length = 0 ∨ kind = 3))) = false := by first | (rw [hv, drop_at hx17, Spec.entR, if_pos (by first | exact .inl (by omega) | exact .inr (.inl (by omega)) | exact .inr (.inr (.inl (by omega))) | exact .inr (.inr (.inr (by assumption))))]; rfl) | (rw [hv, List.drop_eq_nil_of_le (by omega), Spec.entR, Bool.eq_iff_iff]; simp only [Bool.true_and, decide_eq_true_eq, beq_iff_eq, Bool.false_eq_true, iff_true, iff_false]; omega)
   exact ⟨.bool false, rfl, by first | (rw [hres]; done) | rw [← hres], hx49⟩
theorem conf_May_spec (H : Heap) (lA : Option Addr) (l : List Int) (lc : Nat) (hl : Row H lA lc 1 (l.map i64c)) (cl : l.length ≤ lc) (ll : l.length ≤ 274877906944) : ∃ v H', Spec Try.prog 59 [.slice lA l.length lc] H v H' ∧ ((v = .bool (Spec.mayC l)) ∧ (Ext H H')) := by
 refine spec_go1 E0_ok 35 (f := 59) Try.func59 rfl rfl rfl ?_
 refine aw_seq ?_
 refine aw_reg ?_
 refine st_op (ev_assign rfl) rfl rfl rfl ?_
 try show aw _ _ _ _ _ _
 iterate 2 refine aw_seq ?_
 refine aw_reg ?_
 refine st_op (ev_move rfl) rfl rfl rfl ?_
 refine st_op (ev_lenSl rfl Try.underlying56) rfl rfl rfl ?_
 refine st_op (ev_move rfl) rfl rfl rfl ?_
 try show aw _ _ _ _ _ _
 refine aw_block ?_
 refine aw_keep [0, 5, 6, 7] (l' := (.cons 0 (.slice lA l.length lc) (.cons 5 (.slice lA l.length lc) (.cons 6 (.int .i64 (l.length : Int)) (.cons 7 (.int .i64 0) .nil))))) (by repeat (first | exact Up.done | refine Up.then ?_ | refine Up.inBlock ?_)) rfl ?_
 refine aw_iter (α := Nat × Int × Heap) (fun a => l.length - a.1) (fun a => (.cons 0 (.slice lA l.length lc) (.cons 5 (.slice lA l.length lc) (.cons 6 (.int .i64 (l.length : Int)) (.cons 7 (.int .i64 (a.1 : Int)) .nil))))) (fun a => a.2.2) (fun a => (a.1 ≤ l.length) ∧ (Spec.upF 0 l = Spec.upF a.2.1 (l.drop a.1)) ∧ ((a.1 = 0 → a.2.1 = 0) ∧ (0 < a.1 → l[a.1 - 1]? = some a.2.1)) ∧ (Ext H a.2.2)) (0, (0 : Int), H) ⟨(show 0 ≤ l.length from Nat.zero_le _), (show Spec.upF 0 l = Spec.upF (0 : Int) (l.drop 0) from rfl), (show (0 = 0 → (0 : Int) = 0) ∧ (0 < 0 → l[0 - 1]? = some (0 : Int)) from ⟨fun _ => rfl, fun h => absurd h (by decide)⟩), (show Ext H H from (Ext.refl H))⟩ ?_
 rintro ⟨i, pv, Hl1⟩ ⟨hi, hv, hpv, hxl2⟩ ih3
 replace hi : i ≤ l.length := hi
 replace hv : Spec.upF 0 l = Spec.upF pv (l.drop i) := hv
 replace hpv : (i = 0 → pv = 0) ∧ (0 < i → l[i - 1]? = some pv) := hpv
 replace hxl2 : Ext H Hl1 := hxl2
 show aw _ _ _ (RL _ (.cons 0 (.slice lA l.length lc) (.cons 5 (.slice lA l.length lc) (.cons 6 (.int .i64 (l.length : Int)) (.cons 7 (.int .i64 (i : Int)) .nil))))) Hl1 _
 have Hl1n : H.next ≤ Hl1.next := hxl2.1
 refine aw_seq ?_
 refine aw_reg ?_
 refine st_op (ev_int rfl rfl rfl) rfl rfl rfl ?_
 try show aw _ _ _ _ _ _
 refine aw_seq ?_
 by_cases hc4 : (decide ((i : Int) < (l.length : Int))) = true
 ·
  refine aw_condT hc4 rfl ?_
  try show aw _ _ _ _ _ _
  have hc4 := of_decide_eq_true hc4
  refine aw_skip ?_
  try show aw _ _ _ _ _ _
  refine aw_seq ?_
  refine aw_block ?_
  refine aw_seq ?_
  refine aw_reg ?_
  refine st_op (ev_move rfl) rfl rfl rfl ?_
  have h5 := Row.ext hl hxl2
  have hi6 : 0 ≤ ((i : Int) : Int) := by omega
  have hi7 : ((i : Int) : Int) < ((l.length : Nat) : Int) := by omega
  obtain ⟨x8, hx9⟩ : ∃ e, l[i]? = some e := ⟨_, List.getElem?_eq_getElem (by omega)⟩
  refine st_op (ev_at rfl rfl h5 (getMap i64c hx9) (by first | rfl | omega | simp) hi6 hi7 el56) rfl rfl rfl ?_
  refine st_op (ev_atL rfl h5 (getMap i64c hx9) one3 rfl) rfl rfl rfl ?_
  iterate 2 refine st_op (ev_assign rfl) rfl rfl rfl ?_
  try show aw _ _ _ _ _ _
  refine aw_seq ?_
  refine aw_reg ?_
  refine st_op (ev_move rfl) rfl rfl rfl ?_
  refine st_op (ev_int rfl rfl rfl) rfl rfl rfl ?_
  refine st_op (ev_move rfl) rfl rfl rfl ?_
  refine st_bool 14 rfl (fun hb10 => ?_) (fun hb10 => ?_)
  ·
   have hb10 := of_decide_eq_true hb10
   iterate 2 refine st_skip rfl rfl rfl ?_
   refine st_op (ev_pickT rfl rfl) rfl rfl rfl ?_
   refine st_op (ev_move rfl) rfl rfl rfl ?_
   iterate 11 refine st_skip rfl rfl rfl ?_
   refine st_op (ev_pickT rfl rfl) rfl rfl rfl ?_
   try show aw _ _ _ _ _ _
   refine aw_cond (t := true) rfl ?_
   try show aw _ _ _ _ _ _
   refine aw_seq ?_
   refine aw_reg ?_
   refine st_op (ev_assign rfl) rfl rfl rfl ?_
   try show aw _ _ _ _ _ _
   refine aw_ret ?_
   have hres : (Spec.mayC l) = false := by unfold Spec.mayC; rw [hv, drop_at hx9, Spec.upF, if_pos (by omega)]; rfl
   exact ⟨.bool false, rfl, by first | (rw [hres]; done) | rw [← hres], hxl2⟩
  ·
   have hb10 := of_decide_eq_false hb10
   refine st_op (ev_move rfl) rfl rfl rfl ?_
   refine st_op (ev_int rfl rfl rfl) rfl rfl rfl ?_
   refine st_op (ev_pickF rfl rfl) rfl rfl rfl ?_
   refine st_op (ev_move rfl) rfl rfl rfl ?_
   refine st_bool 18 rfl (fun hb11 => ?_) (fun hb11 => ?_)
   ·
    have hb11 := of_decide_eq_true hb11
    iterate 11 refine st_skip rfl rfl rfl ?_
    refine st_op (ev_pickT rfl rfl) rfl rfl rfl ?_
    try show aw _ _ _ _ _ _
    refine aw_cond (t := true) rfl ?_
    try show aw _ _ _ _ _ _
    refine aw_seq ?_
    refine aw_reg ?_
    refine st_op (ev_assign rfl) rfl rfl rfl ?_
    try show aw _ _ _ _ _ _
    refine aw_ret ?_
    have hres : (Spec.mayC l) = false := by unfold Spec.mayC; rw [hv, drop_at hx9, Spec.upF, if_pos (by omega)]; rfl
    exact ⟨.bool false, rfl, by first | (rw [hres]; done) | rw [← hres], hxl2⟩
   ·
    have hb11 := of_decide_eq_false hb11
    refine st_op (ev_move rfl) rfl rfl rfl ?_
    refine st_op (ev_int rfl rfl rfl) rfl rfl rfl ?_
    refine st_op (ev_move rfl) rfl rfl rfl ?_
    refine st_bool 21 rfl (fun hb12 => ?_) (fun hb12 => ?_)
    ·
     have hb12 := of_decide_eq_true hb12
     iterate 2 refine st_op (ev_move rfl) rfl rfl rfl ?_
     refine st_op (ev_int64 (c := (i : Int) - 1) rfl rfl rfl (by omega) (by omega)) rfl rfl rfl ?_
     have hi13 : 0 ≤ ((i : Int) - 1 : Int) := by omega
     have hi14 : ((i : Int) - 1 : Int) < ((l.length : Nat) : Int) := by omega
     obtain ⟨x15, hx16⟩ : ∃ e, l[(((i : Int) - 1)).toNat]? = some e := ⟨_, List.getElem?_eq_getElem (by omega)⟩
     have x15p : x15 = pv := by have q := hpv.2 (by omega); rw [show (((((i : Int) - 1)).toNat) : Nat) = i - 1 by omega] at hx16; rw [hx16] at q; cases q; rfl
     refine st_op (ev_at rfl rfl h5 (getMap i64c hx16) (by first | rfl | omega | simp) hi13 hi14 el56) rfl rfl rfl ?_
     refine st_op (ev_atL rfl h5 (getMap i64c hx16) one3 rfl) rfl rfl rfl ?_
     refine st_op (ev_move rfl) rfl rfl rfl ?_
     refine st_op (ev_int rfl rfl rfl) rfl rfl rfl ?_
     refine st_op (ev_pickT rfl rfl) rfl rfl rfl ?_
     refine st_op (ev_pickF rfl rfl) rfl rfl rfl ?_
     try show aw _ _ _ _ _ _
     by_cases hc17 : (decide (x15 ≥ x8)) = true
     ·
      refine aw_condT hc17 rfl ?_
      try show aw _ _ _ _ _ _
      have hc17 := of_decide_eq_true hc17
      refine aw_seq ?_
      refine aw_reg ?_
      refine st_op (ev_assign rfl) rfl rfl rfl ?_
      try show aw _ _ _ _ _ _
      refine aw_ret ?_
      have hres : (Spec.mayC l) = false := by unfold Spec.mayC; rw [hv, drop_at hx9, Spec.upF, if_pos (by omega)]; rfl
      exact ⟨.bool false, rfl, by first | (rw [hres]; done) | rw [← hres], hxl2⟩
     ·
      rw [Bool.not_eq_true] at hc17; refine aw_condF hc17 rfl ?_
      try show aw _ _ _ _ _ _
      have hc17 := of_decide_eq_false hc17
      refine aw_skip ?_
      try show aw _ _ _ _ _ _
      refine aw_reg ?_
      refine st_op (ev_int64 (c := (i : Int) + 1) rfl rfl rfl (by omega) (by omega)) rfl rfl rfl ?_
      refine st_op (ev_move rfl) rfl rfl rfl ?_
      try show aw _ _ _ _ _ _
      refine aw_keep [0, 5, 6, 7] (l' := (.cons 0 (.slice lA l.length lc) (.cons 5 (.slice lA l.length lc) (.cons 6 (.int .i64 (l.length : Int)) (.cons 7 (.int .i64 ((i : Int) + 1)) .nil))))) (by repeat (first | exact Up.done | refine Up.then ?_ | refine Up.inBlock ?_)) rfl ?_
      exact ih3 (i + 1, x8, Hl1) ⟨(show (i + 1) ≤ l.length from (by omega)), (show Spec.upF 0 l = Spec.upF x8 (l.drop (i + 1)) from (by rw [hv, drop_at hx9, Spec.upF, if_neg (by omega)])), (show ((i + 1) = 0 → x8 = 0) ∧ (0 < (i + 1) → l[(i + 1) - 1]? = some x8) from ⟨fun h => absurd h (by omega), fun _ => by rw [Nat.add_sub_cancel]; exact hx9⟩), (show Ext H Hl1 from hxl2)⟩ (by simp only; omega)
    ·
     have hb12 := of_decide_eq_false hb12
     iterate 7 refine st_skip rfl rfl rfl ?_
     iterate 2 refine st_op (ev_pickF rfl rfl) rfl rfl rfl ?_
     try show aw _ _ _ _ _ _
     refine aw_cond (t := false) rfl ?_
     try show aw _ _ _ _ _ _
     refine aw_skip ?_
     try show aw _ _ _ _ _ _
     refine aw_reg ?_
     refine st_op (ev_int64 (c := (i : Int) + 1) rfl rfl rfl (by omega) (by omega)) rfl rfl rfl ?_
     refine st_op (ev_move rfl) rfl rfl rfl ?_
     try show aw _ _ _ _ _ _
     refine aw_keep [0, 5, 6, 7] (l' := (.cons 0 (.slice lA l.length lc) (.cons 5 (.slice lA l.length lc) (.cons 6 (.int .i64 (l.length : Int)) (.cons 7 (.int .i64 ((i : Int) + 1)) .nil))))) (by repeat (first | exact Up.done | refine Up.then ?_ | refine Up.inBlock ?_)) rfl ?_
     exact ih3 (i + 1, x8, Hl1) ⟨(show (i + 1) ≤ l.length from (by omega)), (show Spec.upF 0 l = Spec.upF x8 (l.drop (i + 1)) from (by rw [hv, drop_at hx9, Spec.upF, if_neg (by have := hpv.1 (by omega); omega)])), (show ((i + 1) = 0 → x8 = 0) ∧ (0 < (i + 1) → l[(i + 1) - 1]? = some x8) from ⟨fun h => absurd h (by omega), fun _ => by rw [Nat.add_sub_cancel]; exact hx9⟩), (show Ext H Hl1 from hxl2)⟩ (by simp only; omega)
 ·
  rw [Bool.not_eq_true] at hc4; refine aw_condF hc4 rfl ?_
  try show aw _ _ _ _ _ _
  have hc4 := of_decide_eq_false hc4
  refine aw_exit ?_
  try show aw _ _ _ _ _ _
  refine aw_seq ?_
  refine aw_reg ?_
  refine st_op (ev_move rfl) rfl rfl rfl ?_
  refine st_op (ev_lenSl rfl Try.underlying56) rfl rfl rfl ?_
  refine st_op (ev_int rfl rfl rfl) rfl rfl rfl ?_
  refine st_op (ev_assign rfl) rfl rfl rfl ?_
  try show aw _ _ _ _ _ _
  refine aw_ret ?_
  have hres : (Spec.mayC l) = (decide ((l.length : Int) > 0)) := by unfold Spec.mayC; rw [hv, List.drop_eq_nil_of_le (by omega)]; simp [Spec.upF]
  exact ⟨.bool (decide ((l.length : Int) > 0)), rfl, by first | (rw [hres]; done) | rw [← hres], hxl2⟩
theorem conf_Decode_spec (H : Heap) (s : ByteArray) (hs : s.size ≤ 1073741824) : ∃ v H', Spec Try.prog 43 [.string s] H v H' ∧ (∃ rA0 rc0, (v = .tuple #[.slice rA0 (((Spec.decC s).1).length) rc0, .bool ((Spec.decC s).2)]) ∧ (My H H' rA0 rc0 1 (((Spec.decC s).1).map i64c)) ∧ (Ext H H')) := by
 refine spec_go1 E0_ok 24 (f := 43) Try.func43 rfl rfl rfl ?_
 refine aw_seq ?_
 refine aw_reg ?_
 iterate 2 refine st_op (ev_assign rfl) rfl rfl rfl ?_
 try show aw _ _ _ _ _ _
 refine aw_seq ?_
 refine aw_reg ?_
 refine st_op (ev_assign rfl) rfl rfl rfl ?_
 try show aw _ _ _ _ _ _
 iterate 2 refine aw_seq ?_
 refine aw_reg ?_
 refine st_op (ev_move rfl) rfl rfl rfl ?_
 refine st_op (ev_lenStr rfl Try.underlying9) rfl rfl rfl ?_
 refine st_op (ev_move rfl) rfl rfl rfl ?_
 try show aw _ _ _ _ _ _
 refine aw_block ?_
 have hm2 : My H H none 0 1 (([] : List Int).map i64c) := .nil
 refine aw_keep [0, 4, 7, 8] (l' := (.cons 0 (.string s) (.cons 4 (.slice none 0 0) (.cons 7 (.int .i64 ((s).size : Int)) (.cons 8 (.int .i64 0) .nil))))) (by repeat (first | exact Up.done | refine Up.then ?_ | refine Up.inBlock ?_)) rfl ?_
 refine aw_iter (α := Nat × Option Addr × Nat × List Int × Heap) (fun a => s.size - a.1) (fun a => (.cons 0 (.string s) (.cons 4 (.slice a.2.1 a.2.2.2.1.length a.2.2.1) (.cons 7 (.int .i64 ((s).size : Int)) (.cons 8 (.int .i64 (a.1 : Int)) .nil))))) (fun a => a.2.2.2.2) (fun a => (a.1 ≤ s.size) ∧ (a.2.2.2.1 = (Spec.digits s).take a.1) ∧ (My H a.2.2.2.2 a.2.1 a.2.2.1 1 (a.2.2.2.1.map i64c)) ∧ (Ext H a.2.2.2.2)) (0, none, 0, ([] : List Int), H) ⟨(show 0 ≤ s.size from Nat.zero_le _), (show ([] : List Int) = (Spec.digits s).take 0 from rfl), (show My H H none 0 1 (([] : List Int).map i64c) from hm2), (show Ext H H from (Ext.refl H))⟩ ?_
 rintro ⟨i, A, cp, l, Hl1⟩ ⟨hi, hl, hm3, hxl4⟩ ih5
 replace hi : i ≤ s.size := hi
 replace hl : l = (Spec.digits s).take i := hl
 replace hm3 : My H Hl1 A cp 1 (l.map i64c) := hm3
 replace hxl4 : Ext H Hl1 := hxl4
 show aw _ _ _ (RL _ (.cons 0 (.string s) (.cons 4 (.slice A l.length cp) (.cons 7 (.int .i64 ((s).size : Int)) (.cons 8 (.int .i64 (i : Int)) .nil))))) Hl1 _
 have Hl1n : H.next ≤ Hl1.next := hxl4.1
 have hll : l.length = i := by rw [hl, List.length_take, Spec.digits_len]; omega
 refine aw_seq ?_
 refine aw_reg ?_
 refine st_op (ev_int rfl rfl rfl) rfl rfl rfl ?_
 try show aw _ _ _ _ _ _
 refine aw_seq ?_
 by_cases hc6 : (decide ((i : Int) < ((s).size : Int))) = true
 ·
  refine aw_condT hc6 rfl ?_
  try show aw _ _ _ _ _ _
  have hc6 := of_decide_eq_true hc6
  refine aw_skip ?_
  try show aw _ _ _ _ _ _
  refine aw_seq ?_
  refine aw_block ?_
  refine aw_seq ?_
  refine aw_reg ?_
  refine st_op (ev_move rfl) rfl rfl rfl ?_
  refine st_op (ev_assign rfl) rfl rfl rfl ?_
  try show aw _ _ _ _ _ _
  refine aw_reg ?_
  iterate 3 refine st_op (ev_move rfl) rfl rfl rfl ?_
  obtain ⟨y7, hy8⟩ : ∃ y, (s).data.toList[i]? = some y := ⟨_, List.getElem?_eq_getElem (by simp; omega)⟩
  have y7t := y7.toNat_lt
  refine st_op (ev_ixStr Try.underlying9 rfl rfl (ba_get hy8)) rfl rfl rfl ?_
  refine st_op (ev_convI Try.underlying5 Try.underlying3 rfl (wrI64 (by omega) (by omega))) rfl rfl rfl ?_
  refine st_op (ev_int64 (c := (y7.toNat : Int) - 48) rfl rfl rfl (by omega) (by omega)) rfl rfl rfl ?_
  obtain ⟨b9, H10, he11, b9e, H10n_, hm13, f12⟩ := mem_lit Hl1 (xs := ([.int .i64 ((y7.toNat : Int) - 48)] : List Value)) (m := 1) (rows := [[.int .i64 ((y7.toNat : Int) - 48)]]) rfl eok56 (by decide) (by decide) zf3 rfl (allLen rfl) rfl
  replace hm13 : My Hl1 H10 (some ⟨b9, 0, none⟩) 1 1 ([(y7.toNat : Int) - 48].map i64c) := hm13
  refine st_op (he11 _ _ _ _ _ _ _ _ rfl) rfl rfl rfl ?_
  have hx14 : Ext Hl1 H10 := Ext.new (by omega) H10n_ f12
  have H10n : Hl1.next ≤ H10.next := hx14.1
  have h15 := My.ext hm3 hx14
  obtain ⟨A16, c17, H18, W19, he20, hm21, hf22⟩ := mem_append (f := i64c) (old := l) (new := [(y7.toNat : Int) - 48]) (m := l.length) (mx := 1) (c := cp) (by first | rfl | simp) (by first | rfl | simp) eok56 (by decide) hm3 h15 (by omega) (((My.row hm13)).srcF (by decide) (by first | rfl | simp)) rfl i64c_len i64c_one (by first | omega | (simp only [List.length_append, List.length_cons, List.length_nil, List.length_map, List.length_set, List.length_replicate, Spec.bytesOf_length]; omega) | (simp; omega)) (by first | omega | (simp only [List.length_append, List.length_cons, List.length_nil, List.length_map, List.length_set, List.length_replicate, Spec.bytesOf_length]; omega) | (simp; omega))
  refine st_op (he20 _ _ _ _ _ _ _ _ _ _ rfl rfl isrow56) rfl rfl rfl ?_
  have H18n : H10.next ≤ H18.next := hf22.1
  refine st_op (ev_assign rfl) rfl rfl rfl ?_
  try show aw _ _ _ _ _ _
  refine aw_reg ?_
  refine st_op (ev_int64 (c := (i : Int) + 1) rfl rfl rfl (by omega) (by omega)) rfl rfl rfl ?_
  refine st_op (ev_move rfl) rfl rfl rfl ?_
  try show aw _ _ _ _ _ _
  have hx23 : Ext H H18 := (Ext.then (Ext.trans hxl4 hx14) hf22 (fun q hq e => by omega))
  refine aw_keep [0, 4, 7, 8] (l' := (.cons 0 (.string s) (.cons 4 (.slice A16 ((l ++ [(y7.toNat : Int) - 48]).length) c17) (.cons 7 (.int .i64 ((s).size : Int)) (.cons 8 (.int .i64 ((i : Int) + 1)) .nil))))) (by repeat (first | exact Up.done | refine Up.then ?_ | refine Up.inBlock ?_)) rfl ?_
  exact ih5 (i + 1, A16, c17, (l ++ [(y7.toNat : Int) - 48]), H18) ⟨(show (i + 1) ≤ s.size from (by omega)), (show (l ++ [(y7.toNat : Int) - 48]) = (Spec.digits s).take (i + 1) from (by rw [List.take_add_one, ← hl, Spec.digits_at hy8]; rfl)), (show My H H18 A16 c17 1 ((l ++ [(y7.toNat : Int) - 48]).map i64c) from hm21), (show Ext H H18 from hx23)⟩ (by simp only; omega)
 ·
  rw [Bool.not_eq_true] at hc6; refine aw_condF hc6 rfl ?_
  try show aw _ _ _ _ _ _
  have hc6 := of_decide_eq_false hc6
  refine aw_exit ?_
  try show aw _ _ _ _ _ _
  iterate 2 refine aw_seq ?_
  refine aw_reg ?_
  refine st_op (ev_move rfl) rfl rfl rfl ?_
  refine st_call rfl rfl rfl ent59 rfl rfl rfl ?_
  obtain ⟨_, H25, hs24, hs24v, hx26⟩ := conf_May_spec Hl1 A l cp (My.row hm3) (My.capF hm3 (by omega)) (by omega)
  rw [hs24v] at hs24; clear hs24v
  refine ⟨_, H25, hs24, ?_⟩
  have H25n : Hl1.next ≤ H25.next := hx26.1
  refine st_op (ev_not rfl) rfl rfl rfl ?_
  try show aw _ _ _ _ _ _
  by_cases hc27 : (!(Spec.mayC l)) = true
  ·
   refine aw_condT hc27 rfl ?_
   try show aw _ _ _ _ _ _
   replace hc27 : (Spec.mayC l) = false := by rw [Bool.not_eq_true'] at hc27; exact hc27
   refine aw_seq ?_
   refine aw_reg ?_
   iterate 2 refine st_op (ev_assign rfl) rfl rfl rfl ?_
   try show aw _ _ _ _ _ _
   refine aw_ret ?_
   have hm28 : My H25 H25 none 0 1 (([] : List Int).map i64c) := .nil
   have hx29 : Ext H H25 := (Ext.trans hxl4 hx26)
   have hres : (Spec.decC s) = (([] : List Int), false) := by (have hd : l = Spec.digits s := by rw [hl, List.take_of_length_le (by rw [Spec.digits_len]; omega)]); unfold Spec.decC; rw [← hd]; first | (rw [if_pos (by assumption)]; done) | (rw [if_neg (fun h => Bool.noConfusion (h.symm.trans (show _ = false by assumption)))]; done)
   exact ⟨.tuple #[.slice none 0 0, .bool false], rfl, none, 0, by first | (rw [hres]; first | done | rfl | simp; done) | rfl, (by rw [hres]; exact (My.older hm28 (by omega))), hx29⟩
  ·
   rw [Bool.not_eq_true] at hc27; refine aw_condF hc27 rfl ?_
   try show aw _ _ _ _ _ _
   replace hc27 : (Spec.mayC l) = true := by rw [Bool.not_eq_false'] at hc27; exact hc27
   refine aw_skip ?_
   try show aw _ _ _ _ _ _
   refine aw_seq ?_
   refine aw_reg ?_
   refine st_op (ev_move rfl) rfl rfl rfl ?_
   iterate 2 refine st_op (ev_assign rfl) rfl rfl rfl ?_
   try show aw _ _ _ _ _ _
   refine aw_ret ?_
   have h30 := My.ext hm3 hx26
   have hx31 : Ext H H25 := (Ext.trans hxl4 hx26)
   have hres : (Spec.decC s) = (l, true) := by (have hd : l = Spec.digits s := by rw [hl, List.take_of_length_le (by rw [Spec.digits_len]; omega)]); unfold Spec.decC; rw [← hd]; first | (rw [if_pos (by assumption)]; done) | (rw [if_neg (fun h => Bool.noConfusion (h.symm.trans (show _ = false by assumption)))]; done)
   exact ⟨.tuple #[.slice A l.length cp, .bool true], rfl, A, cp, by first | (rw [hres]; first | done | rfl | simp; done) | rfl, (by rw [hres]; exact h30), hx31⟩
theorem num_Put_spec (H : Heap) (bH : Heap) (bA : Option Addr) (b : List Int) (bc : Nat) (hb : My bH H bA bc 1 (b.map u8c)) (nb : bH.next ≤ H.next) (lb : b.length ≤ 1099511627756) (n : Int) (hn : -9223372036854775808 ≤ n ∧ n ≤ 9223372036854775807) : ∃ v H', Spec Try.prog 26 [.slice bA b.length bc, .int .i64 n] H v H' ∧ (∃ rA0 rc0, (v = .slice rA0 ((b ++ Spec.enc (Spec.zig n)).length) rc0) ∧ (My bH H' rA0 rc0 1 ((b ++ Spec.enc (Spec.zig n)).map u8c)) ∧ ((Spec.enc (Spec.zig n)).length ≤ 10) ∧ (Fr (fun q => (bH.next ≤ q ∧ q < H.next ∧ ZB H q 1)) H H')) := by
 refine spec_go2 E0_ok 28 (f := 26) Try.func26 rfl rfl rfl ?_
 refine aw_seq ?_
 refine aw_reg ?_
 refine st_op (ev_assign rfl) rfl rfl rfl ?_
 try show aw _ _ _ _ _ _
 refine aw_seq ?_
 refine aw_reg ?_
 refine st_op (ev_move rfl) rfl rfl rfl ?_
 have hw1 : 0 ≤ (IntKind.u64.wrap n) ∧ (IntKind.u64.wrap n) ≤ 18446744073709551615 := wrapU64 _
 refine st_op (ev_convInt Try.underlying2 Try.underlying87 rfl) rfl rfl rfl ?_
 have hw2 : 0 ≤ (Spec.shl .u64 (IntKind.u64.wrap n) 1) ∧ (Spec.shl .u64 (IntKind.u64.wrap n) 1) ≤ 18446744073709551615 := wrapU64 _
 refine st_op (ev_shlV rfl rfl (by omega)) rfl rfl rfl ?_
 refine st_op (ev_assign rfl) rfl rfl rfl ?_
 try show aw _ _ _ _ _ _
 iterate 2 refine aw_seq ?_
 refine aw_reg ?_
 refine st_op (ev_move rfl) rfl rfl rfl ?_
 refine st_op (ev_int rfl rfl rfl) rfl rfl rfl ?_
 try show aw _ _ _ _ _ _
 by_cases hc3 : (decide (n < 0)) = true
 ·
  refine aw_condT hc3 rfl ?_
  try show aw _ _ _ _ _ _
  have hc3 := of_decide_eq_true hc3
  refine aw_reg ?_
  refine st_op (ev_move rfl) rfl rfl rfl ?_
  have hw4 : 0 ≤ (Go.bits .xor .u64 (IntKind.max .u64) (Spec.shl .u64 (IntKind.u64.wrap n) 1)) ∧ (Go.bits .xor .u64 (IntKind.max .u64) (Spec.shl .u64 (IntKind.u64.wrap n) 1)) ≤ 18446744073709551615 := bitsU64 _ _ _
  refine st_op (ev_comU rfl rfl) rfl rfl rfl ?_
  refine st_op (ev_assign rfl) rfl rfl rfl ?_
  try show aw _ _ _ _ _ _
  refine aw_seq ?_
  refine aw_block ?_
  have hz5 : (Go.bits .xor .u64 (IntKind.max .u64) (Spec.shl .u64 (IntKind.u64.wrap n) 1)) = ((Spec.zig n : Nat) : Int) := by first | (rw [shl1_u64]; (try rw [Spec.not_u64 (by omega) (by omega)]); unfold Spec.zig; split <;> omega) | (simp only [Spec.wrap_u64]; (try rw [Spec.not_u64 (by omega) (by omega)]); unfold Spec.zig; split <;> omega)
  have hz5l := Spec.zig_lt hn.1 hn.2
  refine aw_keep [0, 5] (l' := (.cons 0 (.slice bA b.length bc) (.cons 5 (.int .u64 (Go.bits .xor .u64 (IntKind.max .u64) (Spec.shl .u64 (IntKind.u64.wrap n) 1))) .nil))) (by repeat (first | exact Up.done | refine Up.then ?_ | refine Up.inBlock ?_)) rfl ?_
  refine aw_iter (α := Int × Option Addr × Nat × List Int × Nat × Heap) (fun a => a.2.2.2.2.1) (fun a => (.cons 0 (.slice a.2.1 a.2.2.2.1.length a.2.2.1) (.cons 5 (.int .u64 a.1) .nil))) (fun a => a.2.2.2.2.2) (fun a => (a.1 = (a.2.2.2.2.1 : Int)) ∧ (a.2.2.2.1 ++ Spec.enc a.2.2.2.2.1 = b ++ Spec.enc (Spec.zig n)) ∧ (a.2.2.2.2.1 < 18446744073709551616) ∧ (a.2.2.2.1.length + (Spec.enc a.2.2.2.2.1).length ≤ 1099511627770) ∧ (0 ≤ a.1 ∧ a.1 ≤ 18446744073709551615) ∧ (My bH a.2.2.2.2.2 a.2.1 a.2.2.1 1 (a.2.2.2.1.map u8c)) ∧ (Fr (fun q => (bH.next ≤ q ∧ q < H.next ∧ ZB H q 1)) H a.2.2.2.2.2)) ((Go.bits .xor .u64 (IntKind.max .u64) (Spec.shl .u64 (IntKind.u64.wrap n) 1)), bA, bc, b, (Spec.zig n), H) ⟨(show (Go.bits .xor .u64 (IntKind.max .u64) (Spec.shl .u64 (IntKind.u64.wrap n) 1)) = ((Spec.zig n) : Int) from hz5), (show b ++ Spec.enc (Spec.zig n) = b ++ Spec.enc (Spec.zig n) from rfl), (show (Spec.zig n) < 18446744073709551616 from hz5l), (show b.length + (Spec.enc (Spec.zig n)).length ≤ 1099511627770 from (by have := Spec.enc_len10 hz5l; simp; omega)), (show 0 ≤ (Go.bits .xor .u64 (IntKind.max .u64) (Spec.shl .u64 (IntKind.u64.wrap n) 1)) ∧ (Go.bits .xor .u64 (IntKind.max .u64) (Spec.shl .u64 (IntKind.u64.wrap n) 1)) ≤ 18446744073709551615 from ⟨by omega, by omega⟩), (show My bH H bA bc 1 (b.map u8c) from hb), (show Fr (fun q => (bH.next ≤ q ∧ q < H.next ∧ ZB H q 1)) H H from (Fr.refl _ H))⟩ ?_
  rintro ⟨v, A, cp, l, u, Hl6⟩ ⟨hv, hl, hu, hL, hn7, hm8, hxl9⟩ ih10
  replace hv : v = (u : Int) := hv
  replace hl : l ++ Spec.enc u = b ++ Spec.enc (Spec.zig n) := hl
  replace hu : u < 18446744073709551616 := hu
  replace hL : l.length + (Spec.enc u).length ≤ 1099511627770 := hL
  replace hn7 : 0 ≤ v ∧ v ≤ 18446744073709551615 := hn7
  replace hm8 : My bH Hl6 A cp 1 (l.map u8c) := hm8
  replace hxl9 : Fr (fun q => (bH.next ≤ q ∧ q < H.next ∧ ZB H q 1)) H Hl6 := hxl9
  show aw _ _ _ (RL _ (.cons 0 (.slice A l.length cp) (.cons 5 (.int .u64 v) .nil))) Hl6 _
  have Hl6n : H.next ≤ Hl6.next := hxl9.1
  have hpos := Spec.enc_pos u
  iterate 2 refine aw_seq ?_
  refine aw_reg ?_
  refine st_op (ev_move rfl) rfl rfl rfl ?_
  refine st_op (ev_int rfl rfl rfl) rfl rfl rfl ?_
  try show aw _ _ _ _ _ _
  by_cases hc11 : (decide (v > 127)) = true
  ·
   refine aw_condT hc11 rfl ?_
   try show aw _ _ _ _ _ _
   have hc11 := of_decide_eq_true hc11
   refine aw_skip ?_
   try show aw _ _ _ _ _ _
   refine aw_block ?_
   refine aw_seq ?_
   refine aw_reg ?_
   iterate 2 refine st_op (ev_move rfl) rfl rfl rfl ?_
   have hw12 : 0 ≤ (IntKind.u8.wrap v) ∧ (IntKind.u8.wrap v) ≤ 255 := wrapU8 _
   refine st_op (ev_convInt Try.underlying87 Try.underlying5 rfl) rfl rfl rfl ?_
   have hw13 : 0 ≤ (Go.bits .or .u8 (IntKind.u8.wrap v) 128) ∧ (Go.bits .or .u8 (IntKind.u8.wrap v) 128) ≤ 255 := bitsU8 _ _ _
   refine st_op (ev_bits rfl rfl rfl) rfl rfl rfl ?_
   obtain ⟨b14, H15, he16, b14e, H15n_, hm18, f17⟩ := mem_lit Hl6 (xs := ([.int .u8 (Go.bits .or .u8 (IntKind.u8.wrap v) 128)] : List Value)) (m := 1) (rows := [[.int .u8 (Go.bits .or .u8 (IntKind.u8.wrap v) 128)]]) rfl eok29 (by decide) (by decide) zf5 rfl (allLen rfl) rfl
   replace hm18 : My Hl6 H15 (some ⟨b14, 0, none⟩) 1 1 ([(Go.bits .or .u8 (IntKind.u8.wrap v) 128)].map u8c) := hm18
   refine st_op (he16 _ _ _ _ _ _ _ _ rfl) rfl rfl rfl ?_
   have hx19 : Ext Hl6 H15 := Ext.new (by omega) H15n_ f17
   have H15n : Hl6.next ≤ H15.next := hx19.1
   have h20 := My.ext hm8 hx19
   obtain ⟨A21, c22, H23, W24, he25, hm26, hf27⟩ := mem_append (f := u8c) (old := l) (new := [(Go.bits .or .u8 (IntKind.u8.wrap v) 128)]) (m := l.length) (mx := 1) (c := cp) (by first | rfl | simp) (by first | rfl | simp) eok29 (by decide) hm8 h20 (by omega) (((My.row hm18)).srcF (by decide) (by first | rfl | simp)) rfl u8c_len u8c_one (by first | omega | (simp only [List.length_append, List.length_cons, List.length_nil, List.length_map, List.length_set, List.length_replicate, Spec.bytesOf_length]; omega) | (simp; omega)) (by first | omega | (simp only [List.length_append, List.length_cons, List.length_nil, List.length_map, List.length_set, List.length_replicate, Spec.bytesOf_length]; omega) | (simp; omega))
   refine st_op (he25 _ _ _ _ _ _ _ _ _ _ rfl rfl isrow29) rfl rfl rfl ?_
   have H23n : H15.next ≤ H23.next := hf27.1
   refine st_op (ev_assign rfl) rfl rfl rfl ?_
   try show aw _ _ _ _ _ _
   refine aw_reg ?_
   refine st_op (ev_move rfl) rfl rfl rfl ?_
   refine st_op (ev_shr (a := v) (c := 128) rfl rfl (by decide) (by decide)) rfl rfl rfl ?_
   refine st_op (ev_assign rfl) rfl rfl rfl ?_
   try show aw _ _ _ _ _ _
   refine aw_keep [0, 5] (l' := (.cons 0 (.slice A21 ((l ++ [(Go.bits .or .u8 (IntKind.u8.wrap v) 128)]).length) c22) (.cons 5 (.int .u64 (v / 128)) .nil))) (by repeat (first | exact Up.done | refine Up.then ?_ | refine Up.inBlock ?_)) rfl ?_
   exact ih10 ((v / 128), A21, c22, (l ++ [(Go.bits .or .u8 (IntKind.u8.wrap v) 128)]), (u / 128), H23) ⟨(show (v / 128) = ((u / 128) : Int) from (by subst hv; omega)), (show (l ++ [(Go.bits .or .u8 (IntKind.u8.wrap v) 128)]) ++ Spec.enc (u / 128) = b ++ Spec.enc (Spec.zig n) from (by rw [← hl, Spec.enc_step (u := u) (by omega), List.append_assoc]; congr 2; subst hv; rw [List.cons_append, List.nil_append]; congr 1 <;> first | (rw [IntKind.wrap_u8, Spec.or128 (by omega) (by omega)]; omega) | (rw [IntKind.wrap_u8]; omega) | omega)), (show (u / 128) < 18446744073709551616 from (by omega)), (show (l ++ [(Go.bits .or .u8 (IntKind.u8.wrap v) 128)]).length + (Spec.enc (u / 128)).length ≤ 1099511627770 from (by rw [Spec.enc_step (u := u) (by omega), List.length_cons] at hL; rw [List.length_append, List.length_singleton]; omega)), (show 0 ≤ (v / 128) ∧ (v / 128) ≤ 18446744073709551615 from ⟨by omega, by omega⟩), (show My bH H23 A21 c22 1 ((l ++ [(Go.bits .or .u8 (IntKind.u8.wrap v) 128)]).map u8c) from hm26), (show Fr (fun q => (bH.next ≤ q ∧ q < H.next ∧ ZB H q 1)) H H23 from (Fr.transG (Fr.trans (Fr.transG (Fr.refl (fun q => (bH.next ≤ q ∧ q < H.next ∧ ZB H q 1)) H) hxl9 (fun q hq hE e => (⟨by omega, by omega, ZB.back hE e.2.2⟩))) (hx19.fr fun _ => False) (fun q hq (e : False) => e.elim)) hf27 (fun q hq hE e => (⟨by omega, by omega, ZB.back hE e.2.2⟩))))⟩ (by simp only; omega)
  ·
   rw [Bool.not_eq_true] at hc11; refine aw_condF hc11 rfl ?_
   try show aw _ _ _ _ _ _
   have hc11 := of_decide_eq_false hc11
   refine aw_exit ?_
   try show aw _ _ _ _ _ _
   refine aw_seq ?_
   refine aw_reg ?_
   iterate 2 refine st_op (ev_move rfl) rfl rfl rfl ?_
   refine st_op (ev_convI Try.underlying87 Try.underlying5 rfl (wrU8 (by omega) (by omega))) rfl rfl rfl ?_
   obtain ⟨b28, H29, he30, b28e, H29n_, hm32, f31⟩ := mem_lit Hl6 (xs := ([.int .u8 v] : List Value)) (m := 1) (rows := [[.int .u8 v]]) rfl eok29 (by decide) (by decide) zf5 rfl (allLen rfl) rfl
   replace hm32 : My Hl6 H29 (some ⟨b28, 0, none⟩) 1 1 ([v].map u8c) := hm32
   refine st_op (he30 _ _ _ _ _ _ _ _ rfl) rfl rfl rfl ?_
   have hx33 : Ext Hl6 H29 := Ext.new (by omega) H29n_ f31
   have H29n : Hl6.next ≤ H29.next := hx33.1
   have h34 := My.ext hm8 hx33
   obtain ⟨A35, c36, H37, W38, he39, hm40, hf41⟩ := mem_append (f := u8c) (old := l) (new := [v]) (m := l.length) (mx := 1) (c := cp) (by first | rfl | simp) (by first | rfl | simp) eok29 (by decide) hm8 h34 (by omega) (((My.row hm32)).srcF (by decide) (by first | rfl | simp)) rfl u8c_len u8c_one (by first | omega | (simp only [List.length_append, List.length_cons, List.length_nil, List.length_map, List.length_set, List.length_replicate, Spec.bytesOf_length]; omega) | (simp; omega)) (by first | omega | (simp only [List.length_append, List.length_cons, List.length_nil, List.length_map, List.length_set, List.length_replicate, Spec.bytesOf_length]; omega) | (simp; omega))
   refine st_op (he39 _ _ _ _ _ _ _ _ _ _ rfl rfl isrow29) rfl rfl rfl ?_
   have H37n : H29.next ≤ H37.next := hf41.1
   refine st_op (ev_assign rfl) rfl rfl rfl ?_
   try show aw _ _ _ _ _ _
   refine aw_ret ?_
   have hres : (b ++ Spec.enc (Spec.zig n)) = (l ++ [v]) := by rw [← hl, Spec.enc_small (u := u) (by omega)]; congr 2; subst hv; first | done | omega | (rw [IntKind.wrap_u8]; omega)
   exact ⟨.slice A35 ((l ++ [v]).length) c36, rfl, A35, c36, by first | (rw [hres]; first | done | rfl | simp; done) | rfl, (by rw [hres]; exact hm40), (by exact Spec.zig_i64 hn), (Fr.transG (Fr.trans (Fr.transG (Fr.refl (fun q => (bH.next ≤ q ∧ q < H.next ∧ ZB H q 1)) H) hxl9 (fun q hq hE e => (⟨by omega, by omega, ZB.back hE e.2.2⟩))) (hx33.fr fun _ => False) (fun q hq (e : False) => e.elim)) hf41 (fun q hq hE e => (⟨by omega, by omega, ZB.back hE e.2.2⟩)))⟩
 ·
  rw [Bool.not_eq_true] at hc3; refine aw_condF hc3 rfl ?_
  try show aw _ _ _ _ _ _
  have hc3 := of_decide_eq_false hc3
  refine aw_skip ?_
  try show aw _ _ _ _ _ _
  refine aw_seq ?_
  refine aw_block ?_
  have hz42 : (Spec.shl .u64 (IntKind.u64.wrap n) 1) = ((Spec.zig n : Nat) : Int) := by first | (rw [shl1_u64]; (try rw [Spec.not_u64 (by omega) (by omega)]); unfold Spec.zig; split <;> omega) | (simp only [Spec.wrap_u64]; (try rw [Spec.not_u64 (by omega) (by omega)]); unfold Spec.zig; split <;> omega)
  have hz42l := Spec.zig_lt hn.1 hn.2
  refine aw_keep [0, 5] (l' := (.cons 0 (.slice bA b.length bc) (.cons 5 (.int .u64 (Spec.shl .u64 (IntKind.u64.wrap n) 1)) .nil))) (by repeat (first | exact Up.done | refine Up.then ?_ | refine Up.inBlock ?_)) rfl ?_
  refine aw_iter (α := Int × Option Addr × Nat × List Int × Nat × Heap) (fun a => a.2.2.2.2.1) (fun a => (.cons 0 (.slice a.2.1 a.2.2.2.1.length a.2.2.1) (.cons 5 (.int .u64 a.1) .nil))) (fun a => a.2.2.2.2.2) (fun a => (a.1 = (a.2.2.2.2.1 : Int)) ∧ (a.2.2.2.1 ++ Spec.enc a.2.2.2.2.1 = b ++ Spec.enc (Spec.zig n)) ∧ (a.2.2.2.2.1 < 18446744073709551616) ∧ (a.2.2.2.1.length + (Spec.enc a.2.2.2.2.1).length ≤ 1099511627770) ∧ (0 ≤ a.1 ∧ a.1 ≤ 18446744073709551615) ∧ (My bH a.2.2.2.2.2 a.2.1 a.2.2.1 1 (a.2.2.2.1.map u8c)) ∧ (Fr (fun q => (bH.next ≤ q ∧ q < H.next ∧ ZB H q 1)) H a.2.2.2.2.2)) ((Spec.shl .u64 (IntKind.u64.wrap n) 1), bA, bc, b, (Spec.zig n), H) ⟨(show (Spec.shl .u64 (IntKind.u64.wrap n) 1) = ((Spec.zig n) : Int) from hz42), (show b ++ Spec.enc (Spec.zig n) = b ++ Spec.enc (Spec.zig n) from rfl), (show (Spec.zig n) < 18446744073709551616 from hz42l), (show b.length + (Spec.enc (Spec.zig n)).length ≤ 1099511627770 from (by have := Spec.enc_len10 hz42l; simp; omega)), (show 0 ≤ (Spec.shl .u64 (IntKind.u64.wrap n) 1) ∧ (Spec.shl .u64 (IntKind.u64.wrap n) 1) ≤ 18446744073709551615 from ⟨by omega, by omega⟩), (show My bH H bA bc 1 (b.map u8c) from hb), (show Fr (fun q => (bH.next ≤ q ∧ q < H.next ∧ ZB H q 1)) H H from (Fr.refl _ H))⟩ ?_
  rintro ⟨v, A, cp, l, u, Hl43⟩ ⟨hv, hl, hu, hL, hn44, hm45, hxl46⟩ ih47
  replace hv : v = (u : Int) := hv
  replace hl : l ++ Spec.enc u = b ++ Spec.enc (Spec.zig n) := hl
  replace hu : u < 18446744073709551616 := hu
  replace hL : l.length + (Spec.enc u).length ≤ 1099511627770 := hL
  replace hn44 : 0 ≤ v ∧ v ≤ 18446744073709551615 := hn44
  replace hm45 : My bH Hl43 A cp 1 (l.map u8c) := hm45
  replace hxl46 : Fr (fun q => (bH.next ≤ q ∧ q < H.next ∧ ZB H q 1)) H Hl43 := hxl46
  show aw _ _ _ (RL _ (.cons 0 (.slice A l.length cp) (.cons 5 (.int .u64 v) .nil))) Hl43 _
  have Hl43n : H.next ≤ Hl43.next := hxl46.1
  have hpos := Spec.enc_pos u
  iterate 2 refine aw_seq ?_
  refine aw_reg ?_
  refine st_op (ev_move rfl) rfl rfl rfl ?_
  refine st_op (ev_int rfl rfl rfl) rfl rfl rfl ?_
  try show aw _ _ _ _ _ _
  by_cases hc48 : (decide (v > 127)) = true
  ·
   refine aw_condT hc48 rfl ?_
   try show aw _ _ _ _ _ _
   have hc48 := of_decide_eq_true hc48
   refine aw_skip ?_
   try show aw _ _ _ _ _ _
   refine aw_block ?_
   refine aw_seq ?_
   refine aw_reg ?_
   iterate 2 refine st_op (ev_move rfl) rfl rfl rfl ?_
   have hw49 : 0 ≤ (IntKind.u8.wrap v) ∧ (IntKind.u8.wrap v) ≤ 255 := wrapU8 _
   refine st_op (ev_convInt Try.underlying87 Try.underlying5 rfl) rfl rfl rfl ?_
   have hw50 : 0 ≤ (Go.bits .or .u8 (IntKind.u8.wrap v) 128) ∧ (Go.bits .or .u8 (IntKind.u8.wrap v) 128) ≤ 255 := bitsU8 _ _ _
   refine st_op (ev_bits rfl rfl rfl) rfl rfl rfl ?_
   obtain ⟨b51, H52, he53, b51e, H52n_, hm55, f54⟩ := mem_lit Hl43 (xs := ([.int .u8 (Go.bits .or .u8 (IntKind.u8.wrap v) 128)] : List Value)) (m := 1) (rows := [[.int .u8 (Go.bits .or .u8 (IntKind.u8.wrap v) 128)]]) rfl eok29 (by decide) (by decide) zf5 rfl (allLen rfl) rfl
   replace hm55 : My Hl43 H52 (some ⟨b51, 0, none⟩) 1 1 ([(Go.bits .or .u8 (IntKind.u8.wrap v) 128)].map u8c) := hm55
   refine st_op (he53 _ _ _ _ _ _ _ _ rfl) rfl rfl rfl ?_
   have hx56 : Ext Hl43 H52 := Ext.new (by omega) H52n_ f54
   have H52n : Hl43.next ≤ H52.next := hx56.1
   have h57 := My.ext hm45 hx56
   obtain ⟨A58, c59, H60, W61, he62, hm63, hf64⟩ := mem_append (f := u8c) (old := l) (new := [(Go.bits .or .u8 (IntKind.u8.wrap v) 128)]) (m := l.length) (mx := 1) (c := cp) (by first | rfl | simp) (by first | rfl | simp) eok29 (by decide) hm45 h57 (by omega) (((My.row hm55)).srcF (by decide) (by first | rfl | simp)) rfl u8c_len u8c_one (by first | omega | (simp only [List.length_append, List.length_cons, List.length_nil, List.length_map, List.length_set, List.length_replicate, Spec.bytesOf_length]; omega) | (simp; omega)) (by first | omega | (simp only [List.length_append, List.length_cons, List.length_nil, List.length_map, List.length_set, List.length_replicate, Spec.bytesOf_length]; omega) | (simp; omega))
   refine st_op (he62 _ _ _ _ _ _ _ _ _ _ rfl rfl isrow29) rfl rfl rfl ?_
   have H60n : H52.next ≤ H60.next := hf64.1
   refine st_op (ev_assign rfl) rfl rfl rfl ?_
   try show aw _ _ _ _ _ _
   refine aw_reg ?_
   refine st_op (ev_move rfl) rfl rfl rfl ?_
   refine st_op (ev_shr (a := v) (c := 128) rfl rfl (by decide) (by decide)) rfl rfl rfl ?_
   refine st_op (ev_assign rfl) rfl rfl rfl ?_
   try show aw _ _ _ _ _ _
   refine aw_keep [0, 5] (l' := (.cons 0 (.slice A58 ((l ++ [(Go.bits .or .u8 (IntKind.u8.wrap v) 128)]).length) c59) (.cons 5 (.int .u64 (v / 128)) .nil))) (by repeat (first | exact Up.done | refine Up.then ?_ | refine Up.inBlock ?_)) rfl ?_
   exact ih47 ((v / 128), A58, c59, (l ++ [(Go.bits .or .u8 (IntKind.u8.wrap v) 128)]), (u / 128), H60) ⟨(show (v / 128) = ((u / 128) : Int) from (by subst hv; omega)), (show (l ++ [(Go.bits .or .u8 (IntKind.u8.wrap v) 128)]) ++ Spec.enc (u / 128) = b ++ Spec.enc (Spec.zig n) from (by rw [← hl, Spec.enc_step (u := u) (by omega), List.append_assoc]; congr 2; subst hv; rw [List.cons_append, List.nil_append]; congr 1 <;> first | (rw [IntKind.wrap_u8, Spec.or128 (by omega) (by omega)]; omega) | (rw [IntKind.wrap_u8]; omega) | omega)), (show (u / 128) < 18446744073709551616 from (by omega)), (show (l ++ [(Go.bits .or .u8 (IntKind.u8.wrap v) 128)]).length + (Spec.enc (u / 128)).length ≤ 1099511627770 from (by rw [Spec.enc_step (u := u) (by omega), List.length_cons] at hL; rw [List.length_append, List.length_singleton]; omega)), (show 0 ≤ (v / 128) ∧ (v / 128) ≤ 18446744073709551615 from ⟨by omega, by omega⟩), (show My bH H60 A58 c59 1 ((l ++ [(Go.bits .or .u8 (IntKind.u8.wrap v) 128)]).map u8c) from hm63), (show Fr (fun q => (bH.next ≤ q ∧ q < H.next ∧ ZB H q 1)) H H60 from (Fr.transG (Fr.trans (Fr.transG (Fr.refl (fun q => (bH.next ≤ q ∧ q < H.next ∧ ZB H q 1)) H) hxl46 (fun q hq hE e => (⟨by omega, by omega, ZB.back hE e.2.2⟩))) (hx56.fr fun _ => False) (fun q hq (e : False) => e.elim)) hf64 (fun q hq hE e => (⟨by omega, by omega, ZB.back hE e.2.2⟩))))⟩ (by simp only; omega)
  ·
   rw [Bool.not_eq_true] at hc48; refine aw_condF hc48 rfl ?_
   try show aw _ _ _ _ _ _
   have hc48 := of_decide_eq_false hc48
   refine aw_exit ?_
   try show aw _ _ _ _ _ _
   refine aw_seq ?_
   refine aw_reg ?_
   iterate 2 refine st_op (ev_move rfl) rfl rfl rfl ?_
   refine st_op (ev_convI Try.underlying87 Try.underlying5 rfl (wrU8 (by omega) (by omega))) rfl rfl rfl ?_
   obtain ⟨b65, H66, he67, b65e, H66n_, hm69, f68⟩ := mem_lit Hl43 (xs := ([.int .u8 v] : List Value)) (m := 1) (rows := [[.int .u8 v]]) rfl eok29 (by decide) (by decide) zf5 rfl (allLen rfl) rfl
   replace hm69 : My Hl43 H66 (some ⟨b65, 0, none⟩) 1 1 ([v].map u8c) := hm69
   refine st_op (he67 _ _ _ _ _ _ _ _ rfl) rfl rfl rfl ?_
   have hx70 : Ext Hl43 H66 := Ext.new (by omega) H66n_ f68
   have H66n : Hl43.next ≤ H66.next := hx70.1
   have h71 := My.ext hm45 hx70
   obtain ⟨A72, c73, H74, W75, he76, hm77, hf78⟩ := mem_append (f := u8c) (old := l) (new := [v]) (m := l.length) (mx := 1) (c := cp) (by first | rfl | simp) (by first | rfl | simp) eok29 (by decide) hm45 h71 (by omega) (((My.row hm69)).srcF (by decide) (by first | rfl | simp)) rfl u8c_len u8c_one (by first | omega | (simp only [List.length_append, List.length_cons, List.length_nil, List.length_map, List.length_set, List.length_replicate, Spec.bytesOf_length]; omega) | (simp; omega)) (by first | omega | (simp only [List.length_append, List.length_cons, List.length_nil, List.length_map, List.length_set, List.length_replicate, Spec.bytesOf_length]; omega) | (simp; omega))
   refine st_op (he76 _ _ _ _ _ _ _ _ _ _ rfl rfl isrow29) rfl rfl rfl ?_
   have H74n : H66.next ≤ H74.next := hf78.1
   refine st_op (ev_assign rfl) rfl rfl rfl ?_
   try show aw _ _ _ _ _ _
   refine aw_ret ?_
   have hres : (b ++ Spec.enc (Spec.zig n)) = (l ++ [v]) := by rw [← hl, Spec.enc_small (u := u) (by omega)]; congr 2; subst hv; first | done | omega | (rw [IntKind.wrap_u8]; omega)
   exact ⟨.slice A72 ((l ++ [v]).length) c73, rfl, A72, c73, by first | (rw [hres]; first | done | rfl | simp; done) | rfl, (by rw [hres]; exact hm77), (by exact Spec.zig_i64 hn), (Fr.transG (Fr.trans (Fr.transG (Fr.refl (fun q => (bH.next ≤ q ∧ q < H.next ∧ ZB H q 1)) H) hxl46 (fun q hq hE e => (⟨by omega, by omega, ZB.back hE e.2.2⟩))) (hx70.fr fun _ => False) (fun q hq (e : False) => e.elim)) hf78 (fun q hq hE e => (⟨by omega, by omega, ZB.back hE e.2.2⟩)))⟩
theorem num_PutText_spec (H : Heap) (bH : Heap) (bA : Option Addr) (b : List Int) (bc : Nat) (hb : My bH H bA bc 1 (b.map u8c)) (nb : bH.next ≤ H.next) (lb : b.length ≤ 824633720832) (s : ByteArray) (hs : s.size ≤ 137438953472) : ∃ v H', Spec Try.prog 61 [.slice bA b.length bc, .string s] H v H' ∧ (∃ rA0 rc0, (v = .slice rA0 ((b ++ Spec.enc (Spec.zig (s.size : Int)) ++ Spec.bytesOf s).length) rc0) ∧ (My bH H' rA0 rc0 1 ((b ++ Spec.enc (Spec.zig (s.size : Int)) ++ Spec.bytesOf s).map u8c)) ∧ ((Spec.enc (Spec.zig (s.size : Int))).length ≤ 10) ∧ (Fr (fun q => (bH.next ≤ q ∧ q < H.next ∧ ZB H q 1)) H H')) := by
 refine spec_go2 E0_ok 11 (f := 61) Try.func61 rfl rfl rfl ?_
 refine aw_seq ?_
 refine aw_reg ?_
 refine st_op (ev_assign rfl) rfl rfl rfl ?_
 try show aw _ _ _ _ _ _
 refine aw_seq ?_
 refine aw_reg ?_
 iterate 2 refine st_op (ev_move rfl) rfl rfl rfl ?_
 refine st_op (ev_lenStr rfl Try.underlying9) rfl rfl rfl ?_
 refine st_call rfl rfl rfl ent26 rfl rfl rfl ?_
 obtain ⟨_, H2, hs1, A4, c5, hs1v, hm6, hq7, hx3⟩ := num_Put_spec H bH bA b bc hb (by omega) (by omega) ((s).size : Int) ⟨by omega, by omega⟩
 rw [hs1v] at hs1; clear hs1v
 refine ⟨_, H2, hs1, ?_⟩
 have H2n : H.next ≤ H2.next := hx3.1
 refine st_op (ev_move rfl) rfl rfl rfl ?_
 obtain ⟨A8, c9, H10, W11, he12, hm13, hf14⟩ := mem_append (f := u8c) (old := (b ++ Spec.enc (Spec.zig ((s).size : Int)))) (new := (Spec.bytesOf s)) (m := (b ++ Spec.enc (Spec.zig ((s).size : Int))).length) (mx := (Spec.bytesOf s).length) (c := c5) (by first | rfl | simp) (by first | rfl | simp) eok29 (by decide) hm6 hm6 (by omega) (str_src s) (by simp [lenA, Spec.bytesOf_length]) u8c_len u8c_one (by first | omega | (simp only [List.length_append, List.length_cons, List.length_nil, List.length_map, List.length_set, List.length_replicate, Spec.bytesOf_length]; omega) | (simp; omega)) (by first | omega | (simp only [List.length_append, List.length_cons, List.length_nil, List.length_map, List.length_set, List.length_replicate, Spec.bytesOf_length]; omega) | (simp; omega))
 refine st_op (he12 _ _ _ _ _ _ _ _ _ _ rfl rfl isrow9) rfl rfl rfl ?_
 have H10n : H2.next ≤ H10.next := hf14.1
 refine st_op (ev_assign rfl) rfl rfl rfl ?_
 try show aw _ _ _ _ _ _
 refine aw_ret ?_
 have hres : (b ++ Spec.enc (Spec.zig (s.size : Int)) ++ Spec.bytesOf s) = ((b ++ Spec.enc (Spec.zig ((s).size : Int))) ++ (Spec.bytesOf s)) := by rfl
 exact ⟨.slice A8 (((b ++ Spec.enc (Spec.zig ((s).size : Int))) ++ (Spec.bytesOf s)).length) c9, rfl, A8, c9, by first | (rw [hres]; first | done | rfl | simp; done) | rfl, (by rw [hres]; exact hm13), (by exact Spec.zig_i64 ⟨by omega, by omega⟩), (Fr.transG (Fr.transG (Fr.refl (fun q => (bH.next ≤ q ∧ q < H.next ∧ ZB H q 1)) H) hx3 (fun q hq hE e => (⟨by omega, by omega, ZB.back hE e.2.2⟩))) hf14 (fun q hq hE e => (⟨by omega, by omega, ZB.back hE e.2.2⟩)))⟩
theorem frame_Seal_spec (H : Heap) (kind : Int) (hkind : -9223372036854775808 ≤ kind ∧ kind ≤ 9223372036854775807) (bA : Option Addr) (b : List Int) (bc : Nat) (hb : Row H bA bc 1 (b.map u8c)) (cb : b.length ≤ bc) (lb : b.length ≤ 1099511627776) (bb : Spec.Bytes b) : ∃ v H', Spec Try.prog 25 [.int .i64 kind, .slice bA b.length bc] H v H' ∧ (∃ rA0 rc0, (v = .slice rA0 ((Spec.sealF kind b).length) rc0) ∧ (My H H' rA0 rc0 1 ((Spec.sealF kind b).map u8c)) ∧ (((Spec.sealF kind b)).length ≤ 4007) ∧ (Spec.Bytes (Spec.sealF kind b)) ∧ (Ext H H')) := by
 refine spec_go2 E0_ok 34 (f := 25) Try.func25 rfl rfl rfl ?_
 refine aw_seq ?_
 refine aw_reg ?_
 refine st_op (ev_assign rfl) rfl rfl rfl ?_
 try show aw _ _ _ _ _ _
 iterate 2 refine aw_seq ?_
 refine aw_reg ?_
 refine st_op (ev_move rfl) rfl rfl rfl ?_
 refine st_op (ev_int rfl rfl rfl) rfl rfl rfl ?_
 refine st_op (ev_move rfl) rfl rfl rfl ?_
 refine st_bool 9 rfl (fun hb1 => ?_) (fun hb1 => ?_)
 ·
  have hb1 := of_decide_eq_true hb1
  iterate 2 refine st_skip rfl rfl rfl ?_
  refine st_op (ev_pickT rfl rfl) rfl rfl rfl ?_
  refine st_op (ev_move rfl) rfl rfl rfl ?_
  iterate 3 refine st_skip rfl rfl rfl ?_
  refine st_op (ev_pickT rfl rfl) rfl rfl rfl ?_
  try show aw _ _ _ _ _ _
  refine aw_cond (t := true) rfl ?_
  try show aw _ _ _ _ _ _
  refine aw_seq ?_
  refine aw_reg ?_
  refine st_op (ev_assign rfl) rfl rfl rfl ?_
  try show aw _ _ _ _ _ _
  refine aw_ret ?_
  have hm2 : My H H none 0 1 (([] : List Int).map u8c) := .nil
  have hres : (Spec.sealF kind b) = ([] : List Int) := by unfold Spec.sealF; rw [if_pos (by omega)]
  exact ⟨.slice none 0 0, rfl, none, 0, by first | (rw [hres]; first | done | rfl | simp; done) | rfl, (by rw [hres]; exact hm2), (by exact Spec.sealF_len), (by exact Spec.sealF_bytes bb), (Ext.refl H)⟩
 ·
  have hb1 := of_decide_eq_false hb1
  refine st_op (ev_move rfl) rfl rfl rfl ?_
  refine st_op (ev_int rfl rfl rfl) rfl rfl rfl ?_
  refine st_op (ev_pickF rfl rfl) rfl rfl rfl ?_
  refine st_op (ev_move rfl) rfl rfl rfl ?_
  refine st_bool 13 rfl (fun hb3 => ?_) (fun hb3 => ?_)
  ·
   have hb3 := of_decide_eq_true hb3
   iterate 3 refine st_skip rfl rfl rfl ?_
   refine st_op (ev_pickT rfl rfl) rfl rfl rfl ?_
   try show aw _ _ _ _ _ _
   refine aw_cond (t := true) rfl ?_
   try show aw _ _ _ _ _ _
   refine aw_seq ?_
   refine aw_reg ?_
   refine st_op (ev_assign rfl) rfl rfl rfl ?_
   try show aw _ _ _ _ _ _
   refine aw_ret ?_
   have hm4 : My H H none 0 1 (([] : List Int).map u8c) := .nil
   have hres : (Spec.sealF kind b) = ([] : List Int) := by unfold Spec.sealF; rw [if_pos (by omega)]
   exact ⟨.slice none 0 0, rfl, none, 0, by first | (rw [hres]; first | done | rfl | simp; done) | rfl, (by rw [hres]; exact hm4), (by exact Spec.sealF_len), (by exact Spec.sealF_bytes bb), (Ext.refl H)⟩
  ·
   have hb3 := of_decide_eq_false hb3
   refine st_op (ev_move rfl) rfl rfl rfl ?_
   refine st_op (ev_lenSl rfl Try.underlying29) rfl rfl rfl ?_
   refine st_op (ev_int rfl rfl rfl) rfl rfl rfl ?_
   refine st_op (ev_pickF rfl rfl) rfl rfl rfl ?_
   try show aw _ _ _ _ _ _
   by_cases hc5 : (decide ((b.length : Int) > 4000)) = true
   ·
    refine aw_condT hc5 rfl ?_
    try show aw _ _ _ _ _ _
    have hc5 := of_decide_eq_true hc5
    refine aw_seq ?_
    refine aw_reg ?_
    refine st_op (ev_assign rfl) rfl rfl rfl ?_
    try show aw _ _ _ _ _ _
    refine aw_ret ?_
    have hm6 : My H H none 0 1 (([] : List Int).map u8c) := .nil
    have hres : (Spec.sealF kind b) = ([] : List Int) := by unfold Spec.sealF; rw [if_pos (by omega)]
    exact ⟨.slice none 0 0, rfl, none, 0, by first | (rw [hres]; first | done | rfl | simp; done) | rfl, (by rw [hres]; exact hm6), (by exact Spec.sealF_len), (by exact Spec.sealF_bytes bb), (Ext.refl H)⟩
   ·
    rw [Bool.not_eq_true] at hc5; refine aw_condF hc5 rfl ?_
    try show aw _ _ _ _ _ _
    have hc5 := of_decide_eq_false hc5
    refine aw_skip ?_
    try show aw _ _ _ _ _ _
    refine aw_seq ?_
    refine aw_reg ?_
    refine st_op (ev_move rfl) rfl rfl rfl ?_
    refine st_op (ev_convI Try.underlying3 Try.underlying5 rfl (wrU8 (by omega) (by omega))) rfl rfl rfl ?_
    obtain ⟨b7, H8, he9, b7e, H8n_, hm11, f10⟩ := mem_lit H (xs := ([.int .u8 kind] : List Value)) (m := 1) (rows := [[.int .u8 kind]]) rfl eok29 (by decide) (by decide) zf5 rfl (allLen rfl) rfl
    replace hm11 : My H H8 (some ⟨b7, 0, none⟩) 1 1 ([kind].map u8c) := hm11
    refine st_op (he9 _ _ _ _ _ _ _ _ rfl) rfl rfl rfl ?_
    have hx12 : Ext H H8 := Ext.new (by omega) H8n_ f10
    have H8n : H.next ≤ H8.next := hx12.1
    refine st_op (ev_move rfl) rfl rfl rfl ?_
    refine st_op (ev_lenSl rfl Try.underlying29) rfl rfl rfl ?_
    refine st_call rfl rfl rfl ent26 rfl rfl rfl ?_
    obtain ⟨_, H14, hs13, A16, c17, hs13v, hm18, hq19, hx15⟩ := num_Put_spec H8 H (some ⟨b7, 0, none⟩) ([kind]) 1 hm11 (by omega) (by first | omega | (simp only [List.length_append, List.length_cons, List.length_nil, List.length_map, List.length_set, List.length_replicate, Spec.bytesOf_length]; omega) | (simp; omega)) (b.length : Int) ⟨by omega, by omega⟩
    rw [hs13v] at hs13; clear hs13v
    refine ⟨_, H14, hs13, ?_⟩
    have H14n : H8.next ≤ H14.next := hx15.1
    refine st_op (ev_assign rfl) rfl rfl rfl ?_
    try show aw _ _ _ _ _ _
    refine aw_seq ?_
    refine aw_reg ?_
    refine st_op (ev_move rfl) rfl rfl rfl ?_
    refine st_call rfl rfl rfl ent47 rfl rfl rfl ?_
    obtain ⟨_, H21, hs20, hs20v, hq23, hx22⟩ := crc_Sum_spec H14 A16 (([kind]) ++ Spec.enc (Spec.zig (b.length : Int))) c17 (My.row hm18) (My.capF hm18 (by first | omega | (simp only [List.length_append, List.length_cons, List.length_nil, List.length_map, List.length_set, List.length_replicate, Spec.bytesOf_length]; omega) | (simp; omega))) (by first | omega | (simp only [List.length_append, List.length_cons, List.length_nil, List.length_map, List.length_set, List.length_replicate, Spec.bytesOf_length]; omega) | (simp; omega)) (by first | assumption | exact Spec.Bytes.nil | exact Spec.bytes_of _ | (repeat' first | assumption | exact Spec.Bytes.nil | exact Spec.bytes_of _ | exact Spec.enc_bytes _ | exact Spec.four_bytes _ | exact Spec.sealF_bytes (by assumption) | apply Spec.Bytes.append | apply Spec.Bytes.cons (by omega) | apply Spec.Bytes.take | apply Spec.Bytes.drop))
    rw [hs20v] at hs20; clear hs20v
    refine ⟨_, H21, hs20, ?_⟩
    have H21n : H14.next ≤ H21.next := hx22.1
    refine st_op (ev_move rfl) rfl rfl rfl ?_
    refine st_call rfl rfl rfl ent46 rfl rfl rfl ?_
    have hx25 : Ext H H21 := (Ext.trans (Ext.then hx12 hx15 (fun q hq e => by omega)) hx22)
    have h24 := Row.ext hb hx25
    obtain ⟨_, H27, hs26, hs26v, hq29, hx28⟩ := crc_More_spec H21 ((Spec.crcMore 0 (([kind]) ++ Spec.enc (Spec.zig (b.length : Int))) : Nat) : Int) ⟨by omega, by omega⟩ bA b bc h24 cb (by first | omega | (simp only [List.length_append, List.length_cons, List.length_nil, List.length_map, List.length_set, List.length_replicate, Spec.bytesOf_length]; omega) | (simp; omega)) (by assumption)
    rw [hs26v] at hs26; clear hs26v
    refine ⟨_, H27, hs26, ?_⟩
    have H27n : H21.next ≤ H27.next := hx28.1
    refine st_op (ev_assign rfl) rfl rfl rfl ?_
    try show aw _ _ _ _ _ _
    refine aw_seq ?_
    refine aw_reg ?_
    iterate 2 refine st_op (ev_move rfl) rfl rfl rfl ?_
    refine st_call rfl rfl rfl ent48 rfl rfl rfl ?_
    obtain ⟨_, H31, hs30, A33, c34, hs30v, hm35, hq36, hx32⟩ := num_Four_spec H27 ((Spec.crcMore ((Spec.crcMore 0 (([kind]) ++ Spec.enc (Spec.zig (b.length : Int))) : Nat) : Int).toNat b : Nat) : Int) ⟨by omega, by omega⟩
    rw [hs30v] at hs30; clear hs30v
    refine ⟨_, H31, hs30, ?_⟩
    have H31n : H27.next ≤ H31.next := hx32.1
    have hx38 : Ext H14 H31 := (Ext.trans (Ext.trans hx22 hx28) hx32)
    have h37 := My.ext hm18 hx38
    obtain ⟨A39, c40, H41, W42, he43, hm44, hf45⟩ := mem_append (f := u8c) (old := (([kind]) ++ Spec.enc (Spec.zig (b.length : Int)))) (new := (Spec.four ((Spec.crcMore ((Spec.crcMore 0 (([kind]) ++ Spec.enc (Spec.zig (b.length : Int))) : Nat) : Int).toNat b : Nat) : Int).toNat)) (m := (([kind]) ++ Spec.enc (Spec.zig (b.length : Int))).length) (mx := (Spec.four ((Spec.crcMore ((Spec.crcMore 0 (([kind]) ++ Spec.enc (Spec.zig (b.length : Int))) : Nat) : Int).toNat b : Nat) : Int).toNat).length) (c := c17) (by first | rfl | simp) (by first | rfl | simp) eok29 (by decide) hm18 h37 (by omega) (((My.row hm35)).srcF (by decide) (by first | rfl | simp)) rfl u8c_len u8c_one (by first | omega | (simp only [List.length_append, List.length_cons, List.length_nil, List.length_map, List.length_set, List.length_replicate, Spec.bytesOf_length]; omega) | (simp; omega)) (by first | omega | (simp only [List.length_append, List.length_cons, List.length_nil, List.length_map, List.length_set, List.length_replicate, Spec.bytesOf_length]; omega) | (simp; omega))
    refine st_op (he43 _ _ _ _ _ _ _ _ _ _ rfl rfl isrow29) rfl rfl rfl ?_
    have H41n : H31.next ≤ H41.next := hf45.1
    refine st_op (ev_move rfl) rfl rfl rfl ?_
    have hx47 : Ext H H41 := (Ext.then (Ext.trans (Ext.trans hx25 hx28) hx32) hf45 (fun q hq e => by omega))
    have h46 := Row.ext hb hx47
    obtain ⟨A48, c49, H50, W51, he52, hm53, hf54⟩ := mem_append (f := u8c) (old := ((([kind]) ++ Spec.enc (Spec.zig (b.length : Int))) ++ (Spec.four ((Spec.crcMore ((Spec.crcMore 0 (([kind]) ++ Spec.enc (Spec.zig (b.length : Int))) : Nat) : Int).toNat b : Nat) : Int).toNat))) (new := b) (m := ((([kind]) ++ Spec.enc (Spec.zig (b.length : Int))) ++ (Spec.four ((Spec.crcMore ((Spec.crcMore 0 (([kind]) ++ Spec.enc (Spec.zig (b.length : Int))) : Nat) : Int).toNat b : Nat) : Int).toNat)).length) (mx := b.length) (c := c40) (by first | rfl | simp) (by first | rfl | simp) eok29 (by decide) hm44 hm44 (by omega) ((h46).srcF (by decide) (by first | rfl | simp)) rfl u8c_len u8c_one (by first | omega | (simp only [List.length_append, List.length_cons, List.length_nil, List.length_map, List.length_set, List.length_replicate, Spec.bytesOf_length]; omega) | (simp; omega)) (by first | omega | (simp only [List.length_append, List.length_cons, List.length_nil, List.length_map, List.length_set, List.length_replicate, Spec.bytesOf_length]; omega) | (simp; omega))
    refine st_op (he52 _ _ _ _ _ _ _ _ _ _ rfl rfl isrow29) rfl rfl rfl ?_
    have H50n : H41.next ≤ H50.next := hf54.1
    refine st_op (ev_assign rfl) rfl rfl rfl ?_
    try show aw _ _ _ _ _ _
    refine aw_ret ?_
    have hx55 : Ext H H50 := (Ext.then hx47 hf54 (fun q hq e => by omega))
    have hres : (Spec.sealF kind b) = (((([kind]) ++ Spec.enc (Spec.zig (b.length : Int))) ++ (Spec.four ((Spec.crcMore ((Spec.crcMore 0 (([kind]) ++ Spec.enc (Spec.zig (b.length : Int))) : Nat) : Int).toNat b : Nat) : Int).toNat)) ++ b) := by unfold Spec.sealF; rw [if_neg (by omega)]; exact (Spec.seal_is (by omega)).symm
    exact ⟨.slice A48 ((((([kind]) ++ Spec.enc (Spec.zig (b.length : Int))) ++ (Spec.four ((Spec.crcMore ((Spec.crcMore 0 (([kind]) ++ Spec.enc (Spec.zig (b.length : Int))) : Nat) : Int).toNat b : Nat) : Int).toNat)) ++ b).length) c49, rfl, A48, c49, by first | (rw [hres]; first | done | rfl | simp; done) | rfl, (by rw [hres]; exact hm53), (by exact Spec.sealF_len), (by exact Spec.sealF_bytes bb), hx55⟩
theorem wal_PutSnap_spec (H : Heap) (s_index : Int) (s_term : Int) (s_conf : ByteArray) (s_data : ByteArray) : ∃ v H', Spec Try.prog 44 [.agg #[.int .i64 s_index, .int .i64 s_term, .string s_conf, .string s_data]] H v H' ∧ (∃ rA0 rc0, (v = .slice rA0 ((Spec.snapF s_index s_term s_conf s_data).length) rc0) ∧ (My H H' rA0 rc0 1 ((Spec.snapF s_index s_term s_conf s_data).map u8c)) ∧ (Spec.Bytes (Spec.snapF s_index s_term s_conf s_data)) ∧ (((Spec.snapF s_index s_term s_conf s_data)).length ≤ 1700000) ∧ (rA0 = none ↔ Spec.mayS s_index s_term s_conf s_data = false) ∧ (Ext H H')) := by
 refine spec_go1 E0_ok 43 (f := 44) Try.func44 rfl rfl rfl ?_
 refine aw_seq ?_
 refine aw_reg ?_
 obtain ⟨b1, H2, he3, b1e, H2n_, hB5, f4⟩ := mem_box (P := Try.prog) H (v := .agg #[.int .i64 s_index, .int .i64 s_term, .string s_conf, .string s_data]) (cs := [.int .i64 s_index, .int .i64 s_term, .string s_conf, .string s_data]) rfl rfl
 refine st_op (he3 _ _ _ _ _ _ _ _ _ rfl) rfl rfl rfl ?_
 have hx6 : Ext H H2 := Ext.new (by omega) H2n_ f4
 have H2n : H.next ≤ H2.next := hx6.1
 refine st_op (ev_assign rfl) rfl rfl rfl ?_
 try show aw _ _ _ _ _ _
 iterate 2 refine aw_seq ?_
 refine aw_reg ?_
 refine st_op (ev_load rfl (lvar_part (l := [.int .i64 s_index, .int .i64 s_term, .string s_conf, .string s_data]) many24 hB5 rfl rfl (by decide))) rfl rfl rfl ?_
 refine st_call rfl rfl rfl ent60 rfl rfl rfl ?_
 obtain ⟨_, H8, hs7, hs7v, hx9⟩ := wal_may_spec H2 s_index s_term s_conf s_data
 rw [hs7v] at hs7; clear hs7v
 refine ⟨_, H8, hs7, ?_⟩
 have H8n : H2.next ≤ H8.next := hx9.1
 refine st_op (ev_not rfl) rfl rfl rfl ?_
 try show aw _ _ _ _ _ _
 by_cases hc10 : (!(Spec.mayS s_index s_term s_conf s_data)) = true
 ·
  refine aw_condT hc10 rfl ?_
  try show aw _ _ _ _ _ _
  replace hc10 : (Spec.mayS s_index s_term s_conf s_data) = false := by rw [Bool.not_eq_true'] at hc10; exact hc10
  refine aw_seq ?_
  refine aw_reg ?_
  refine st_op (ev_assign rfl) rfl rfl rfl ?_
  try show aw _ _ _ _ _ _
  refine aw_ret ?_
  have hm11 : My H8 H8 none 0 1 (([] : List Int).map u8c) := .nil
  have hx12 : Ext H H8 := (Ext.trans hx6 hx9)
  have hres : (Spec.snapF s_index s_term s_conf s_data) = ([] : List Int) := by unfold Spec.snapF; rw [if_neg (by simp_all)]
  exact ⟨.slice none 0 0, rfl, none, 0, by first | (rw [hres]; first | done | rfl | simp; done) | rfl, (by rw [hres]; exact (My.older hm11 (by omega))), (by exact Spec.snapF_bytes _ _ _ _), (by exact Spec.snapF_len _ _ _ _), (by exact ⟨fun _ => by simp_all, fun _ => rfl⟩), hx12⟩
 ·
  rw [Bool.not_eq_true] at hc10; refine aw_condF hc10 rfl ?_
  try show aw _ _ _ _ _ _
  replace hc10 : (Spec.mayS s_index s_term s_conf s_data) = true := by rw [Bool.not_eq_false'] at hc10; exact hc10
  have hc10m := Spec.mayS_says hc10
  refine aw_skip ?_
  try show aw _ _ _ _ _ _
  refine aw_seq ?_
  refine aw_marks (fun b => b < H8.next) [(false, false), (false, false), (false, true), (false, false), (true, false), (false, true), (false, false), (true, false), (false, false), (false, false)] mixed (by kernel_rfl) (by kernel_rfl) ?_
  refine sm_op (ev_fieldAddr rfl fa24_0 (o' := 0) rfl) rfl rfl rfl ?_
  have h13 := Ext.blk hx9 (by omega) hB5
  refine sm_op (ev_load rfl (lvar_one one2 h13 rfl)) rfl rfl rfl ?_
  refine sm_call rfl rfl rfl ent26 rfl rfl rfl ?_
  have hm14 : My H8 H8 none 0 1 (([] : List Int).map u8c) := .nil
  obtain ⟨_, H16, hs15, A18, c19, hs15v, hm20, hq21, hx17⟩ := num_Put_spec H8 H8 none ([] : List Int) 0 hm14 (by omega) (by first | omega | (simp only [List.length_append, List.length_cons, List.length_nil, List.length_map, List.length_set, List.length_replicate, Spec.bytesOf_length]; omega) | (simp; omega)) s_index ⟨by omega, by omega⟩
  rw [hs15v] at hs15; clear hs15v
  refine ⟨_, H16, hs15, (fun _ b hb => hx17.2 b (by omega) (fun e => by omega)), ?_⟩
  have H16n : H8.next ≤ H16.next := hx17.1
  refine sm_op (ev_fieldAddr rfl fa24_1 (o' := 1) rfl) rfl rfl rfl ?_
  have hx23 : Ext H8 H16 := (Ext.then (Ext.refl H8) hx17 (fun q hq e => by omega))
  have h22 := Ext.blk hx23 (by omega) h13
  refine sm_read (ev_load rfl (lvar_one one2 h22 rfl)) rfl rfl rfl (fun b hb => by cases hb; dsimp only <;> omega) ?_
  refine sm_call rfl rfl rfl ent26 rfl rfl rfl ?_
  obtain ⟨_, H25, hs24, A27, c28, hs24v, hm29, hq30, hx26⟩ := num_Put_spec H16 H8 A18 (([] : List Int) ++ Spec.enc (Spec.zig s_index)) c19 hm20 (by omega) (by first | omega | (simp only [List.length_append, List.length_cons, List.length_nil, List.length_map, List.length_set, List.length_replicate, Spec.bytesOf_length]; omega) | (simp; omega)) s_term ⟨by omega, by omega⟩
  rw [hs24v] at hs24; clear hs24v
  refine ⟨_, H25, hs24, (fun _ b hb => hx26.2 b (by omega) (fun e => by omega)), ?_⟩
  have H25n : H16.next ≤ H25.next := hx26.1
  refine sm_op (ev_fieldAddr rfl fa24_2 (o' := 2) rfl) rfl rfl rfl ?_
  have hx32 : Ext H8 H25 := (Ext.then hx23 hx26 (fun q hq e => by omega))
  have h31 := Ext.blk hx32 (by omega) h13
  refine sm_read (ev_load rfl (lvar_one one9 h31 rfl)) rfl rfl rfl (fun b hb => by cases hb; dsimp only <;> omega) ?_
  refine sm_call rfl rfl rfl ent61 rfl rfl rfl ?_
  obtain ⟨_, H34, hs33, A36, c37, hs33v, hm38, hq39, hx35⟩ := num_PutText_spec H25 H8 A27 ((([] : List Int) ++ Spec.enc (Spec.zig s_index)) ++ Spec.enc (Spec.zig s_term)) c28 hm29 (by omega) (by first | omega | (simp only [List.length_append, List.length_cons, List.length_nil, List.length_map, List.length_set, List.length_replicate, Spec.bytesOf_length]; omega) | (simp; omega)) s_conf (by omega)
  rw [hs33v] at hs33; clear hs33v
  refine ⟨_, H34, hs33, (fun _ b hb => hx35.2 b (by omega) (fun e => by omega)), ?_⟩
  have H34n : H25.next ≤ H34.next := hx35.1
  refine sm_op (ev_assign rfl) rfl rfl rfl ?_
  try show aw _ _ _ _ _ _
  refine aw_seq ?_
  refine aw_reg ?_
  refine st_op (ev_move rfl) rfl rfl rfl ?_
  refine st_op (ev_fieldAddr rfl fa24_3 (o' := 3) rfl) rfl rfl rfl ?_
  have hx41 : Ext H8 H34 := (Ext.then hx32 hx35 (fun q hq e => by omega))
  have h40 := Ext.blk hx41 (by omega) h13
  refine st_op (ev_load rfl (lvar_one one9 h40 rfl)) rfl rfl rfl ?_
  refine st_op (ev_lenStr rfl Try.underlying9) rfl rfl rfl ?_
  refine st_call rfl rfl rfl ent26 rfl rfl rfl ?_
  obtain ⟨_, H43, hs42, A45, c46, hs42v, hm47, hq48, hx44⟩ := num_Put_spec H34 H8 A36 (((([] : List Int) ++ Spec.enc (Spec.zig s_index)) ++ Spec.enc (Spec.zig s_term)) ++ Spec.enc (Spec.zig (s_conf.size : Int)) ++ Spec.bytesOf s_conf) c37 hm38 (by omega) (by first | omega | (simp only [List.length_append, List.length_cons, List.length_nil, List.length_map, List.length_set, List.length_replicate, Spec.bytesOf_length]; omega) | (simp; omega)) ((s_data).size : Int) ⟨by omega, by omega⟩
  rw [hs42v] at hs42; clear hs42v
  refine ⟨_, H43, hs42, ?_⟩
  have H43n : H34.next ≤ H43.next := hx44.1
  refine st_call rfl rfl rfl ent25 rfl rfl rfl ?_
  obtain ⟨_, H50, hs49, A52, c53, hs49v, hm54, hq55, hq56, hx51⟩ := frame_Seal_spec H43 3 (by decide) A45 ((((([] : List Int) ++ Spec.enc (Spec.zig s_index)) ++ Spec.enc (Spec.zig s_term)) ++ Spec.enc (Spec.zig (s_conf.size : Int)) ++ Spec.bytesOf s_conf) ++ Spec.enc (Spec.zig ((s_data).size : Int))) c46 (My.row hm47) (My.capF hm47 (by first | omega | (simp only [List.length_append, List.length_cons, List.length_nil, List.length_map, List.length_set, List.length_replicate, Spec.bytesOf_length]; omega) | (simp; omega))) (by first | omega | (simp only [List.length_append, List.length_cons, List.length_nil, List.length_map, List.length_set, List.length_replicate, Spec.bytesOf_length]; omega) | (simp; omega)) (by first | assumption | exact Spec.Bytes.nil | exact Spec.bytes_of _ | (repeat' first | assumption | exact Spec.Bytes.nil | exact Spec.bytes_of _ | exact Spec.enc_bytes _ | exact Spec.four_bytes _ | exact Spec.sealF_bytes (by assumption) | apply Spec.Bytes.append | apply Spec.Bytes.cons (by omega) | apply Spec.Bytes.take | apply Spec.Bytes.drop))
  rw [hs49v] at hs49; clear hs49v
  refine ⟨_, H50, hs49, ?_⟩
  have H50n : H43.next ≤ H50.next := hx51.1
  refine st_op (ev_assign rfl) rfl rfl rfl ?_
  try show aw _ _ _ _ _ _
  iterate 2 refine aw_seq ?_
  refine aw_reg ?_
  refine st_op (ev_fieldAddr rfl fa24_3 (o' := 3) rfl) rfl rfl rfl ?_
  have hx58 : Ext H8 H50 := (Ext.trans (Ext.then hx41 hx44 (fun q hq e => by omega)) hx51)
  have h57 := Ext.blk hx58 (by omega) h13
  refine st_op (ev_load rfl (lvar_one one9 h57 rfl)) rfl rfl rfl ?_
  refine st_op (ev_assign rfl) rfl rfl rfl ?_
  try show aw _ _ _ _ _ _
  refine aw_block ?_
  refine aw_keep [4, 5] (l' := (.cons 4 (.slice A52 ((Spec.sealF (3 : Int) ((((([] : List Int) ++ Spec.enc (Spec.zig s_index)) ++ Spec.enc (Spec.zig s_term)) ++ Spec.enc (Spec.zig (s_conf.size : Int)) ++ Spec.bytesOf s_conf) ++ Spec.enc (Spec.zig ((s_data).size : Int)))).length) c53) (.cons 5 (.string s_data) .nil))) (by repeat (first | exact Up.done | refine Up.then ?_ | refine Up.inBlock ?_)) rfl ?_
  refine aw_iter (α := ByteArray × Option Addr × Nat × List Int × Heap) (fun a => a.1.size) (fun a => (.cons 4 (.slice a.2.1 a.2.2.2.1.length a.2.2.1) (.cons 5 (.string a.1) .nil))) (fun a => a.2.2.2.2) (fun a => ((Spec.sealF (3 : Int) ((((([] : List Int) ++ Spec.enc (Spec.zig s_index)) ++ Spec.enc (Spec.zig s_term)) ++ Spec.enc (Spec.zig (s_conf.size : Int)) ++ Spec.bytesOf s_conf) ++ Spec.enc (Spec.zig ((s_data).size : Int)))) ++ Spec.partsF (Spec.bytesOf s_data) = a.2.2.2.1 ++ Spec.partsF (Spec.bytesOf a.1)) ∧ (a.1.size ≤ 200000) ∧ (a.2.2.2.1.length + 10000 * a.1.size ≤ 4100000000) ∧ (My H43 a.2.2.2.2 a.2.1 a.2.2.1 1 (a.2.2.2.1.map u8c)) ∧ (Fr (fun q => (H43.next ≤ q ∧ q < H50.next ∧ ZB H50 q 1)) H50 a.2.2.2.2)) (s_data, A52, c53, (Spec.sealF (3 : Int) ((((([] : List Int) ++ Spec.enc (Spec.zig s_index)) ++ Spec.enc (Spec.zig s_term)) ++ Spec.enc (Spec.zig (s_conf.size : Int)) ++ Spec.bytesOf s_conf) ++ Spec.enc (Spec.zig ((s_data).size : Int)))), H50) ⟨(show (Spec.sealF (3 : Int) ((((([] : List Int) ++ Spec.enc (Spec.zig s_index)) ++ Spec.enc (Spec.zig s_term)) ++ Spec.enc (Spec.zig (s_conf.size : Int)) ++ Spec.bytesOf s_conf) ++ Spec.enc (Spec.zig ((s_data).size : Int)))) ++ Spec.partsF (Spec.bytesOf s_data) = (Spec.sealF (3 : Int) ((((([] : List Int) ++ Spec.enc (Spec.zig s_index)) ++ Spec.enc (Spec.zig s_term)) ++ Spec.enc (Spec.zig (s_conf.size : Int)) ++ Spec.bytesOf s_conf) ++ Spec.enc (Spec.zig ((s_data).size : Int)))) ++ Spec.partsF (Spec.bytesOf s_data) from rfl), (show s_data.size ≤ 200000 from (by omega)), (show (Spec.sealF (3 : Int) ((((([] : List Int) ++ Spec.enc (Spec.zig s_index)) ++ Spec.enc (Spec.zig s_term)) ++ Spec.enc (Spec.zig (s_conf.size : Int)) ++ Spec.bytesOf s_conf) ++ Spec.enc (Spec.zig ((s_data).size : Int)))).length + 10000 * s_data.size ≤ 4100000000 from (by have : (Spec.sealF (3 : Int) ((((([] : List Int) ++ Spec.enc (Spec.zig s_index)) ++ Spec.enc (Spec.zig s_term)) ++ Spec.enc (Spec.zig (s_conf.size : Int)) ++ Spec.bytesOf s_conf) ++ Spec.enc (Spec.zig ((s_data).size : Int)))).length ≤ 4007 := Spec.sealF_len; omega)), (show My H43 H50 A52 c53 1 ((Spec.sealF (3 : Int) ((((([] : List Int) ++ Spec.enc (Spec.zig s_index)) ++ Spec.enc (Spec.zig s_term)) ++ Spec.enc (Spec.zig (s_conf.size : Int)) ++ Spec.bytesOf s_conf) ++ Spec.enc (Spec.zig ((s_data).size : Int)))).map u8c) from hm54), (show Fr (fun q => (H43.next ≤ q ∧ q < H50.next ∧ ZB H50 q 1)) H50 H50 from (Fr.refl _ H50))⟩ ?_
  rintro ⟨rest, A, cp, out, Hl59⟩ ⟨hS, hsz, hL, hm60, hxl61⟩ ih62
  replace hS : (Spec.sealF (3 : Int) ((((([] : List Int) ++ Spec.enc (Spec.zig s_index)) ++ Spec.enc (Spec.zig s_term)) ++ Spec.enc (Spec.zig (s_conf.size : Int)) ++ Spec.bytesOf s_conf) ++ Spec.enc (Spec.zig ((s_data).size : Int)))) ++ Spec.partsF (Spec.bytesOf s_data) = out ++ Spec.partsF (Spec.bytesOf rest) := hS
  replace hsz : rest.size ≤ 200000 := hsz
  replace hL : out.length + 10000 * rest.size ≤ 4100000000 := hL
  replace hm60 : My H43 Hl59 A cp 1 (out.map u8c) := hm60
  replace hxl61 : Fr (fun q => (H43.next ≤ q ∧ q < H50.next ∧ ZB H50 q 1)) H50 Hl59 := hxl61
  show aw _ _ _ (RL _ (.cons 4 (.slice A out.length cp) (.cons 5 (.string rest) .nil))) Hl59 _
  have Hl59n : H50.next ≤ Hl59.next := hxl61.1
  iterate 2 refine aw_seq ?_
  refine aw_reg ?_
  refine st_op (ev_move rfl) rfl rfl rfl ?_
  refine st_op (ev_str rfl rfl rfl) rfl rfl rfl ?_
  try show aw _ _ _ _ _ _
  by_cases hc63 : (!((rest).toList == (⟨#[]⟩ : ByteArray).toList)) = true
  ·
   refine aw_condT hc63 rfl ?_
   try show aw _ _ _ _ _ _
   replace hc63 : ((rest).toList == (⟨#[]⟩ : ByteArray).toList) = false := by rw [Bool.not_eq_true'] at hc63; exact hc63
   have hc63 := ne_of_beq_false hc63
   refine aw_skip ?_
   try show aw _ _ _ _ _ _
   refine aw_block ?_
   refine aw_seq ?_
   refine aw_reg ?_
   refine st_op (ev_move rfl) rfl rfl rfl ?_
   refine st_op (ev_lenStr rfl Try.underlying9) rfl rfl rfl ?_
   obtain ⟨z64, hz65, hz66⟩ : ∃ z, (if 3000 < ((rest).size : Int) then 3000 else ((rest).size : Int)) = z ∧ (((rest).size : Int) ≥ z ∧ 3000 ≥ z ∧ (z = ((rest).size : Int) ∨ z = 3000)) := ⟨_, rfl, by split <;> omega⟩
   refine st_op (ev_minE hz65 rfl rfl) rfl rfl rfl ?_
   have hP := Spec.parts_next (s := rest) (z := z64) (by assumption) hz65.symm
   refine st_op (ev_assign rfl) rfl rfl rfl ?_
   try show aw _ _ _ _ _ _
   refine aw_seq ?_
   refine aw_reg ?_
   iterate 3 refine st_op (ev_move rfl) rfl rfl rfl ?_
   refine st_op (ev_slStr Try.underlying9 rfl rfl rfl (bound_int (by omega) (by omega) rfl) rfl) rfl rfl rfl ?_
   obtain ⟨A67, c68, H69, he70, hm71, hx72⟩ := mem_bytes Hl59 ((rest).extract 0 ((z64).toNat)) slu8_29 isstr_9 (by omega)
   refine st_op (he70 _ _ _ _ _ _ _ _ rfl) rfl rfl rfl ?_
   have H69n : Hl59.next ≤ H69.next := hx72.1
   refine st_call rfl rfl rfl ent25 rfl rfl rfl ?_
   obtain ⟨_, H74, hs73, A76, c77, hs73v, hm78, hq79, hq80, hx75⟩ := frame_Seal_spec H69 4 (by decide) A67 (Spec.bytesOf ((rest).extract 0 ((z64).toNat))) c68 (My.row hm71) (My.capF hm71 (by first | omega | (simp only [List.length_append, List.length_cons, List.length_nil, List.length_map, List.length_set, List.length_replicate, Spec.bytesOf_length]; omega) | (simp; omega))) (by first | omega | (simp only [List.length_append, List.length_cons, List.length_nil, List.length_map, List.length_set, List.length_replicate, Spec.bytesOf_length]; omega) | (simp; omega)) (by first | assumption | exact Spec.Bytes.nil | exact Spec.bytes_of _ | (repeat' first | assumption | exact Spec.Bytes.nil | exact Spec.bytes_of _ | exact Spec.enc_bytes _ | exact Spec.four_bytes _ | exact Spec.sealF_bytes (by assumption) | apply Spec.Bytes.append | apply Spec.Bytes.cons (by omega) | apply Spec.Bytes.take | apply Spec.Bytes.drop))
   rw [hs73v] at hs73; clear hs73v
   refine ⟨_, H74, hs73, ?_⟩
   have H74n : H69.next ≤ H74.next := hx75.1
   have hx82 : Ext Hl59 H74 := (Ext.trans hx72 hx75)
   have h81 := My.ext hm60 hx82
   obtain ⟨A83, c84, H85, W86, he87, hm88, hf89⟩ := mem_append (f := u8c) (old := out) (new := (Spec.sealF (4 : Int) (Spec.bytesOf ((rest).extract 0 ((z64).toNat))))) (m := out.length) (mx := (Spec.sealF (4 : Int) (Spec.bytesOf ((rest).extract 0 ((z64).toNat)))).length) (c := cp) (by first | rfl | simp) (by first | rfl | simp) eok29 (by decide) hm60 h81 (by omega) (((My.row hm78)).srcF (by decide) (by first | rfl | simp)) rfl u8c_len u8c_one (by first | omega | (simp only [List.length_append, List.length_cons, List.length_nil, List.length_map, List.length_set, List.length_replicate, Spec.bytesOf_length]; omega) | (simp; omega)) (by first | omega | (simp only [List.length_append, List.length_cons, List.length_nil, List.length_map, List.length_set, List.length_replicate, Spec.bytesOf_length]; omega) | (simp; omega))
   refine st_op (he87 _ _ _ _ _ _ _ _ _ _ rfl rfl isrow29) rfl rfl rfl ?_
   have H85n : H74.next ≤ H85.next := hf89.1
   refine st_op (ev_assign rfl) rfl rfl rfl ?_
   try show aw _ _ _ _ _ _
   refine aw_reg ?_
   iterate 2 refine st_op (ev_move rfl) rfl rfl rfl ?_
   refine st_op (ev_slStr Try.underlying9 rfl rfl rfl rfl (bound_int (by omega) (by omega) rfl)) rfl rfl rfl ?_
   refine st_op (ev_assign rfl) rfl rfl rfl ?_
   try show aw _ _ _ _ _ _
   refine aw_keep [4, 5] (l' := (.cons 4 (.slice A83 ((out ++ (Spec.sealF (4 : Int) (Spec.bytesOf ((rest).extract 0 ((z64).toNat))))).length) c84) (.cons 5 (.string ((rest).extract (z64).toNat ((rest).size))) .nil))) (by repeat (first | exact Up.done | refine Up.then ?_ | refine Up.inBlock ?_)) rfl ?_
   exact ih62 (((rest).extract (z64).toNat ((rest).size)), A83, c84, (out ++ (Spec.sealF (4 : Int) (Spec.bytesOf ((rest).extract 0 ((z64).toNat))))), H85) ⟨(show (Spec.sealF (3 : Int) ((((([] : List Int) ++ Spec.enc (Spec.zig s_index)) ++ Spec.enc (Spec.zig s_term)) ++ Spec.enc (Spec.zig (s_conf.size : Int)) ++ Spec.bytesOf s_conf) ++ Spec.enc (Spec.zig ((s_data).size : Int)))) ++ Spec.partsF (Spec.bytesOf s_data) = (out ++ (Spec.sealF (4 : Int) (Spec.bytesOf ((rest).extract 0 ((z64).toNat))))) ++ Spec.partsF (Spec.bytesOf ((rest).extract (z64).toNat ((rest).size))) from (by rw [hS, hP.2.1, List.append_assoc])), (show ((rest).extract (z64).toNat ((rest).size)).size ≤ 200000 from (by omega)), (show (out ++ (Spec.sealF (4 : Int) (Spec.bytesOf ((rest).extract 0 ((z64).toNat))))).length + 10000 * ((rest).extract (z64).toNat ((rest).size)).size ≤ 4100000000 from (by rw [List.length_append]; have := @Spec.sealF_len 4 (Spec.bytesOf (rest.extract 0 z64.toNat)); have := hP.2.2.2; omega)), (show My H43 H85 A83 c84 1 ((out ++ (Spec.sealF (4 : Int) (Spec.bytesOf ((rest).extract 0 ((z64).toNat))))).map u8c) from hm88), (show Fr (fun q => (H43.next ≤ q ∧ q < H50.next ∧ ZB H50 q 1)) H50 H85 from (Fr.transG (Fr.trans (Fr.trans (Fr.transG (Fr.refl (fun q => (H43.next ≤ q ∧ q < H50.next ∧ ZB H50 q 1)) H50) hxl61 (fun q hq hE e => (⟨by omega, by omega, ZB.back hE e.2.2⟩))) (hx72.fr fun _ => False) (fun q hq (e : False) => e.elim)) (hx75.fr fun _ => False) (fun q hq (e : False) => e.elim)) hf89 (fun q hq hE e => (⟨by omega, by omega, ZB.back hE e.2.2⟩))))⟩ (by simp only; omega)
  ·
   rw [Bool.not_eq_true] at hc63; refine aw_condF hc63 rfl ?_
   try show aw _ _ _ _ _ _
   replace hc63 : ((rest).toList == (⟨#[]⟩ : ByteArray).toList) = true := by rw [Bool.not_eq_false'] at hc63; exact hc63
   have hc63 := eq_of_beq hc63
   refine aw_exit ?_
   try show aw _ _ _ _ _ _
   refine aw_seq ?_
   refine aw_reg ?_
   refine st_op (ev_move rfl) rfl rfl rfl ?_
   refine st_op (ev_assign rfl) rfl rfl rfl ?_
   try show aw _ _ _ _ _ _
   refine aw_ret ?_
   have hx90 : Ext H Hl59 := (Ext.then (Ext.trans (Ext.then (Ext.then (Ext.then (Ext.then (Ext.trans hx6 hx9) hx17 (fun q hq e => by omega)) hx26 (fun q hq e => by omega)) hx35 (fun q hq e => by omega)) hx44 (fun q hq e => by omega)) hx51) hxl61 (fun q hq e => by omega))
   have hres : (Spec.snapF s_index s_term s_conf s_data) = out := by rw [Spec.snap_head (by assumption)]; exact hS.trans (by rw [show rest = ⟨#[]⟩ from Spec.toList_inj (by assumption)]; simp [Spec.bytesOf, Spec.partsF_nil])
   exact ⟨.slice A out.length cp, rfl, A, cp, by first | (rw [hres]; first | done | rfl | simp; done) | rfl, (by rw [hres]; exact (My.older hm60 (by omega))), (by exact Spec.snapF_bytes _ _ _ _), (by exact Spec.snapF_len _ _ _ _), (by exact ⟨fun h => absurd h (My.neF hm60 (by have := Spec.snapF_pos hc10; rw [hres] at this; omega)), fun h => Bool.noConfusion (h.symm.trans hc10)⟩), hx90⟩
theorem raft_May_spec (H : Heap) (kind : Int) (from_ : Int) (to_ : Int) (term : Int) (index : Int) (logterm : Int) (commit : Int) (yes : Bool) (esA : Option Addr) (es : List Entry) (esc : Nat) (hes : Row H esA esc 4 (es.map Entry.cells)) (ces : es.length ≤ esc) (les : es.length ≤ 1048576) (s_index : Int) (s_term : Int) (s_conf : ByteArray) (hs_conf : s_conf.size ≤ 1073741824) (s_data : ByteArray) (hs_data : s_data.size ≤ 1073741824) : ∃ v H', Spec Try.prog 23 [.agg #[.int .i64 kind, .int .i64 from_, .int .i64 to_, .int .i64 term, .int .i64 index, .int .i64 logterm, .int .i64 commit, .bool yes, .slice esA es.length esc, .int .i64 s_index, .int .i64 s_term, .string s_conf, .string s_data]] H v H' ∧ ((v = .bool (Spec.mayMsg kind from_ to_ term index logterm commit yes es s_index s_term s_conf s_data)) ∧ (Ext H H')) := by
 refine spec_go1 E0_ok 81 (f := 23) Try.func23 rfl rfl rfl ?_
 refine aw_seq ?_
 refine aw_reg ?_
 obtain ⟨b1, H2, he3, b1e, H2n_, hB5, f4⟩ := mem_box (P := Try.prog) H (v := .agg #[.int .i64 kind, .int .i64 from_, .int .i64 to_, .int .i64 term, .int .i64 index, .int .i64 logterm, .int .i64 commit, .bool yes, .slice esA es.length esc, .int .i64 s_index, .int .i64 s_term, .string s_conf, .string s_data]) (cs := [.int .i64 kind, .int .i64 from_, .int .i64 to_, .int .i64 term, .int .i64 index, .int .i64 logterm, .int .i64 commit, .bool yes, .slice esA es.length esc, .int .i64 s_index, .int .i64 s_term, .string s_conf, .string s_data]) rfl rfl
 refine st_op (he3 _ _ _ _ _ _ _ _ _ rfl) rfl rfl rfl ?_
 have hx6 : Ext H H2 := Ext.new (by omega) H2n_ f4
 have H2n : H.next ≤ H2.next := hx6.1
 refine st_op (ev_assign rfl) rfl rfl rfl ?_
 try show aw _ _ _ _ _ _
 iterate 2 refine aw_seq ?_
 refine aw_reg ?_
 refine st_op (ev_fieldAddr rfl fa26_0 (o' := 0) rfl) rfl rfl rfl ?_
 refine st_op (ev_load rfl (lvar_one one3 hB5 rfl)) rfl rfl rfl ?_
 refine st_op (ev_int rfl rfl rfl) rfl rfl rfl ?_
 refine st_op (ev_move rfl) rfl rfl rfl ?_
 refine st_bool 8 rfl (fun hb7 => ?_) (fun hb7 => ?_)
 ·
  have hb7 := of_decide_eq_true hb7
  iterate 3 refine st_skip rfl rfl rfl ?_
  refine st_op (ev_pickT rfl rfl) rfl rfl rfl ?_
  refine st_op (ev_move rfl) rfl rfl rfl ?_
  iterate 4 refine st_skip rfl rfl rfl ?_
  refine st_op (ev_pickT rfl rfl) rfl rfl rfl ?_
  refine st_op (ev_move rfl) rfl rfl rfl ?_
  iterate 4 refine st_skip rfl rfl rfl ?_
  refine st_op (ev_pickT rfl rfl) rfl rfl rfl ?_
  refine st_op (ev_move rfl) rfl rfl rfl ?_
  iterate 5 refine st_skip rfl rfl rfl ?_
  refine st_op (ev_pickT rfl rfl) rfl rfl rfl ?_
  refine st_op (ev_move rfl) rfl rfl rfl ?_
  iterate 9 refine st_skip rfl rfl rfl ?_
  refine st_op (ev_pickT rfl rfl) rfl rfl rfl ?_
  refine st_op (ev_move rfl) rfl rfl rfl ?_
  iterate 3 refine st_skip rfl rfl rfl ?_
  refine st_op (ev_pickT rfl rfl) rfl rfl rfl ?_
  try show aw _ _ _ _ _ _
  refine aw_cond (t := true) rfl ?_
  try show aw _ _ _ _ _ _
  refine aw_seq ?_
  refine aw_reg ?_
  refine st_op (ev_assign rfl) rfl rfl rfl ?_
  try show aw _ _ _ _ _ _
  refine aw_ret ?_
  have hres : (Spec.mayMsg kind from_ to_ term index logterm commit yes es s_index s_term s_conf s_data) = false := by first | exact Spec.mayMsg_f1 (by omega) | exact Spec.mayMsg_f2 (by assumption) | exact Spec.mayMsg_f3 (by assumption) (by omega) (by omega) | (rw [Spec.mayMsg_last (by omega) (by assumption) (fun h => by first | omega | exact Bool.noConfusion (h.symm.trans (show yes = false by assumption)))]; rw [if_pos (by omega), show (Spec.decC s_conf).2 = false by assumption]; rfl)
  exact ⟨.bool false, rfl, by first | (rw [hres]; done) | rw [← hres], hx6⟩
 ·
  have hb7 := of_decide_eq_false hb7
  refine st_op (ev_fieldAddr rfl fa26_0 (o' := 0) rfl) rfl rfl rfl ?_
  refine st_op (ev_load rfl (lvar_one one3 hB5 rfl)) rfl rfl rfl ?_
  refine st_op (ev_int rfl rfl rfl) rfl rfl rfl ?_
  refine st_op (ev_pickF rfl rfl) rfl rfl rfl ?_
  refine st_op (ev_move rfl) rfl rfl rfl ?_
  refine st_bool 13 rfl (fun hb8 => ?_) (fun hb8 => ?_)
  ·
   have hb8 := of_decide_eq_true hb8
   iterate 4 refine st_skip rfl rfl rfl ?_
   refine st_op (ev_pickT rfl rfl) rfl rfl rfl ?_
   refine st_op (ev_move rfl) rfl rfl rfl ?_
   iterate 4 refine st_skip rfl rfl rfl ?_
   refine st_op (ev_pickT rfl rfl) rfl rfl rfl ?_
   refine st_op (ev_move rfl) rfl rfl rfl ?_
   iterate 5 refine st_skip rfl rfl rfl ?_
   refine st_op (ev_pickT rfl rfl) rfl rfl rfl ?_
   refine st_op (ev_move rfl) rfl rfl rfl ?_
   iterate 9 refine st_skip rfl rfl rfl ?_
   refine st_op (ev_pickT rfl rfl) rfl rfl rfl ?_
   refine st_op (ev_move rfl) rfl rfl rfl ?_
   iterate 3 refine st_skip rfl rfl rfl ?_
   refine st_op (ev_pickT rfl rfl) rfl rfl rfl ?_
   try show aw _ _ _ _ _ _
   refine aw_cond (t := true) rfl ?_
   try show aw _ _ _ _ _ _
   refine aw_seq ?_
   refine aw_reg ?_
   refine st_op (ev_assign rfl) rfl rfl rfl ?_
   try show aw _ _ _ _ _ _
   refine aw_ret ?_
   have hres : (Spec.mayMsg kind from_ to_ term index logterm commit yes es s_index s_term s_conf s_data) = false := by first | exact Spec.mayMsg_f1 (by omega) | exact Spec.mayMsg_f2 (by assumption) | exact Spec.mayMsg_f3 (by assumption) (by omega) (by omega) | (rw [Spec.mayMsg_last (by omega) (by assumption) (fun h => by first | omega | exact Bool.noConfusion (h.symm.trans (show yes = false by assumption)))]; rw [if_pos (by omega), show (Spec.decC s_conf).2 = false by assumption]; rfl)
   exact ⟨.bool false, rfl, by first | (rw [hres]; done) | rw [← hres], hx6⟩
  ·
   have hb8 := of_decide_eq_false hb8
   refine st_op (ev_fieldAddr rfl fa26_1 (o' := 1) rfl) rfl rfl rfl ?_
   refine st_op (ev_load rfl (lvar_one one3 hB5 rfl)) rfl rfl rfl ?_
   refine st_call rfl rfl rfl ent40 rfl rfl rfl ?_
   obtain ⟨_, H10, hs9, hs9v, hx11⟩ := raft_server_spec H2 from_
   rw [hs9v] at hs9; clear hs9v
   refine ⟨_, H10, hs9, ?_⟩
   have H10n : H2.next ≤ H10.next := hx11.1
   refine st_op (ev_not rfl) rfl rfl rfl ?_
   refine st_op (ev_pickF rfl rfl) rfl rfl rfl ?_
   refine st_op (ev_move rfl) rfl rfl rfl ?_
   refine st_bool 19 rfl (fun hb12 => ?_) (fun hb12 => ?_)
   ·
    replace hb12 : (decide (1 ≤ from_ ∧ from_ ≤ 7)) = false := by rw [Bool.not_eq_true'] at hb12; exact hb12
    have hb12 := of_decide_eq_false hb12
    iterate 4 refine st_skip rfl rfl rfl ?_
    refine st_op (ev_pickT rfl rfl) rfl rfl rfl ?_
    refine st_op (ev_move rfl) rfl rfl rfl ?_
    iterate 5 refine st_skip rfl rfl rfl ?_
    refine st_op (ev_pickT rfl rfl) rfl rfl rfl ?_
    refine st_op (ev_move rfl) rfl rfl rfl ?_
    iterate 9 refine st_skip rfl rfl rfl ?_
    refine st_op (ev_pickT rfl rfl) rfl rfl rfl ?_
    refine st_op (ev_move rfl) rfl rfl rfl ?_
    iterate 3 refine st_skip rfl rfl rfl ?_
    refine st_op (ev_pickT rfl rfl) rfl rfl rfl ?_
    try show aw _ _ _ _ _ _
    refine aw_cond (t := true) rfl ?_
    try show aw _ _ _ _ _ _
    refine aw_seq ?_
    refine aw_reg ?_
    refine st_op (ev_assign rfl) rfl rfl rfl ?_
    try show aw _ _ _ _ _ _
    refine aw_ret ?_
    have hx13 : Ext H H10 := (Ext.trans hx6 hx11)
    have hres : (Spec.mayMsg kind from_ to_ term index logterm commit yes es s_index s_term s_conf s_data) = false := by first | exact Spec.mayMsg_f1 (by omega) | exact Spec.mayMsg_f2 (by assumption) | exact Spec.mayMsg_f3 (by assumption) (by omega) (by omega) | (rw [Spec.mayMsg_last (by omega) (by assumption) (fun h => by first | omega | exact Bool.noConfusion (h.symm.trans (show yes = false by assumption)))]; rw [if_pos (by omega), show (Spec.decC s_conf).2 = false by assumption]; rfl)
    exact ⟨.bool false, rfl, by first | (rw [hres]; done) | rw [← hres], hx13⟩
   ·
    replace hb12 : (decide (1 ≤ from_ ∧ from_ ≤ 7)) = true := by rw [Bool.not_eq_false'] at hb12; exact hb12
    have hb12 := of_decide_eq_true hb12
    refine st_op (ev_fieldAddr rfl fa26_2 (o' := 2) rfl) rfl rfl rfl ?_
    have h14 := Ext.blk hx11 (by omega) hB5
    refine st_op (ev_load rfl (lvar_one one3 h14 rfl)) rfl rfl rfl ?_
    refine st_call rfl rfl rfl ent40 rfl rfl rfl ?_
    obtain ⟨_, H16, hs15, hs15v, hx17⟩ := raft_server_spec H10 to_
    rw [hs15v] at hs15; clear hs15v
    refine ⟨_, H16, hs15, ?_⟩
    have H16n : H10.next ≤ H16.next := hx17.1
    refine st_op (ev_not rfl) rfl rfl rfl ?_
    refine st_op (ev_pickF rfl rfl) rfl rfl rfl ?_
    refine st_op (ev_move rfl) rfl rfl rfl ?_
    refine st_bool 25 rfl (fun hb18 => ?_) (fun hb18 => ?_)
    ·
     replace hb18 : (decide (1 ≤ to_ ∧ to_ ≤ 7)) = false := by rw [Bool.not_eq_true'] at hb18; exact hb18
     have hb18 := of_decide_eq_false hb18
     iterate 5 refine st_skip rfl rfl rfl ?_
     refine st_op (ev_pickT rfl rfl) rfl rfl rfl ?_
     refine st_op (ev_move rfl) rfl rfl rfl ?_
     iterate 9 refine st_skip rfl rfl rfl ?_
     refine st_op (ev_pickT rfl rfl) rfl rfl rfl ?_
     refine st_op (ev_move rfl) rfl rfl rfl ?_
     iterate 3 refine st_skip rfl rfl rfl ?_
     refine st_op (ev_pickT rfl rfl) rfl rfl rfl ?_
     try show aw _ _ _ _ _ _
     refine aw_cond (t := true) rfl ?_
     try show aw _ _ _ _ _ _
     refine aw_seq ?_
     refine aw_reg ?_
     refine st_op (ev_assign rfl) rfl rfl rfl ?_
     try show aw _ _ _ _ _ _
     refine aw_ret ?_
     have hx19 : Ext H H16 := (Ext.trans (Ext.trans hx6 hx11) hx17)
     have hres : (Spec.mayMsg kind from_ to_ term index logterm commit yes es s_index s_term s_conf s_data) = false := by first | exact Spec.mayMsg_f1 (by omega) | exact Spec.mayMsg_f2 (by assumption) | exact Spec.mayMsg_f3 (by assumption) (by omega) (by omega) | (rw [Spec.mayMsg_last (by omega) (by assumption) (fun h => by first | omega | exact Bool.noConfusion (h.symm.trans (show yes = false by assumption)))]; rw [if_pos (by omega), show (Spec.decC s_conf).2 = false by assumption]; rfl)
     exact ⟨.bool false, rfl, by first | (rw [hres]; done) | rw [← hres], hx19⟩
    ·
     replace hb18 : (decide (1 ≤ to_ ∧ to_ ≤ 7)) = true := by rw [Bool.not_eq_false'] at hb18; exact hb18
     have hb18 := of_decide_eq_true hb18
     refine st_op (ev_fieldAddr rfl fa26_3 (o' := 3) rfl) rfl rfl rfl ?_
     have h20 := Ext.blk hx17 (by omega) h14
     refine st_op (ev_load rfl (lvar_one one2 h20 rfl)) rfl rfl rfl ?_
     obtain ⟨b21, H22, he23, b21e, H22n_, hm25, f24⟩ := mem_lit H16 (xs := ([.int .i64 term] : List Value)) (m := 1) (rows := [[.int .i64 term]]) rfl eok77 (by decide) (by decide) zf2 rfl (allLen rfl) rfl
     replace hm25 : My H16 H22 (some ⟨b21, 0, none⟩) 1 1 ([term].map i64c) := hm25
     refine st_op (he23 _ _ _ _ _ _ _ _ rfl) rfl rfl rfl ?_
     have hx26 : Ext H16 H22 := Ext.new (by omega) H22n_ f24
     have H22n : H16.next ≤ H22.next := hx26.1
     refine st_call rfl rfl rfl ent41 rfl rfl rfl ?_
     obtain ⟨_, H28, hs27, hs27v, hx29⟩ := raft_in_spec H22 1 (by decide) (some ⟨b21, 0, none⟩) ([term]) 1 (My.row hm25) (My.capF hm25 (by first | omega | (simp only [List.length_append, List.length_cons, List.length_nil, List.length_map, List.length_set, List.length_replicate, Spec.bytesOf_length]; omega) | (simp; omega))) (by first | omega | (simp only [List.length_append, List.length_cons, List.length_nil, List.length_map, List.length_set, List.length_replicate, Spec.bytesOf_length]; omega) | (simp; omega))
     rw [hs27v] at hs27; clear hs27v
     refine ⟨_, H28, hs27, ?_⟩
     have H28n : H22.next ≤ H28.next := hx29.1
     refine st_op (ev_not rfl) rfl rfl rfl ?_
     refine st_op (ev_pickF rfl rfl) rfl rfl rfl ?_
     refine st_op (ev_move rfl) rfl rfl rfl ?_
     refine st_bool 32 rfl (fun hb30 => ?_) (fun hb30 => ?_)
     ·
      replace hb30 : (Spec.inF (1 : Int) 1099511627776 ([term])) = false := by rw [Bool.not_eq_true'] at hb30; exact hb30
      have hb30m := Spec.inF_oneN hb30
      iterate 9 refine st_skip rfl rfl rfl ?_
      refine st_op (ev_pickT rfl rfl) rfl rfl rfl ?_
      refine st_op (ev_move rfl) rfl rfl rfl ?_
      iterate 3 refine st_skip rfl rfl rfl ?_
      refine st_op (ev_pickT rfl rfl) rfl rfl rfl ?_
      try show aw _ _ _ _ _ _
      refine aw_cond (t := true) rfl ?_
      try show aw _ _ _ _ _ _
      refine aw_seq ?_
      refine aw_reg ?_
      refine st_op (ev_assign rfl) rfl rfl rfl ?_
      try show aw _ _ _ _ _ _
      refine aw_ret ?_
      have hx31 : Ext H H28 := (Ext.trans (Ext.trans (Ext.trans (Ext.trans hx6 hx11) hx17) hx26) hx29)
      have hres : (Spec.mayMsg kind from_ to_ term index logterm commit yes es s_index s_term s_conf s_data) = false := by first | exact Spec.mayMsg_f1 (by omega) | exact Spec.mayMsg_f2 (by assumption) | exact Spec.mayMsg_f3 (by assumption) (by omega) (by omega) | (rw [Spec.mayMsg_last (by omega) (by assumption) (fun h => by first | omega | exact Bool.noConfusion (h.symm.trans (show yes = false by assumption)))]; rw [if_pos (by omega), show (Spec.decC s_conf).2 = false by assumption]; rfl)
      exact ⟨.bool false, rfl, by first | (rw [hres]; done) | rw [← hres], hx31⟩
     ·
      replace hb30 : (Spec.inF (1 : Int) 1099511627776 ([term])) = true := by rw [Bool.not_eq_false'] at hb30; exact hb30
      have hb30m := Spec.inF_one hb30
      refine st_op (ev_fieldAddr rfl fa26_4 (o' := 4) rfl) rfl rfl rfl ?_
      have hx33 : Ext H16 H28 := (Ext.trans hx26 hx29)
      have h32 := Ext.blk hx33 (by omega) h20
      refine st_op (ev_load rfl (lvar_one one2 h32 rfl)) rfl rfl rfl ?_
      refine st_op (ev_fieldAddr rfl fa26_5 (o' := 5) rfl) rfl rfl rfl ?_
      refine st_op (ev_load rfl (lvar_one one2 h32 rfl)) rfl rfl rfl ?_
      refine st_op (ev_fieldAddr rfl fa26_6 (o' := 6) rfl) rfl rfl rfl ?_
      refine st_op (ev_load rfl (lvar_one one2 h32 rfl)) rfl rfl rfl ?_
      obtain ⟨b34, H35, he36, b34e, H35n_, hm38, f37⟩ := mem_lit H28 (xs := ([.int .i64 index, .int .i64 logterm, .int .i64 commit] : List Value)) (m := 3) (rows := [[.int .i64 index], [.int .i64 logterm], [.int .i64 commit]]) rfl eok77 (by decide) (by decide) zf2 rfl (allLen rfl) rfl
      replace hm38 : My H28 H35 (some ⟨b34, 0, none⟩) 3 1 ([index, logterm, commit].map i64c) := hm38
      refine st_op (he36 _ _ _ _ _ _ _ _ rfl) rfl rfl rfl ?_
      have hx39 : Ext H28 H35 := Ext.new (by omega) H35n_ f37
      have H35n : H28.next ≤ H35.next := hx39.1
      refine st_call rfl rfl rfl ent41 rfl rfl rfl ?_
      obtain ⟨_, H41, hs40, hs40v, hx42⟩ := raft_in_spec H35 0 (by decide) (some ⟨b34, 0, none⟩) ([index, logterm, commit]) 3 (My.row hm38) (My.capF hm38 (by first | omega | (simp only [List.length_append, List.length_cons, List.length_nil, List.length_map, List.length_set, List.length_replicate, Spec.bytesOf_length]; omega) | (simp; omega))) (by first | omega | (simp only [List.length_append, List.length_cons, List.length_nil, List.length_map, List.length_set, List.length_replicate, Spec.bytesOf_length]; omega) | (simp; omega))
      rw [hs40v] at hs40; clear hs40v
      refine ⟨_, H41, hs40, ?_⟩
      have H41n : H35.next ≤ H41.next := hx42.1
      refine st_op (ev_not rfl) rfl rfl rfl ?_
      refine st_op (ev_pickF rfl rfl) rfl rfl rfl ?_
      refine st_op (ev_move rfl) rfl rfl rfl ?_
      refine st_bool 43 rfl (fun hb43 => ?_) (fun hb43 => ?_)
      ·
       replace hb43 : (Spec.inF (0 : Int) 1099511627776 ([index, logterm, commit])) = false := by rw [Bool.not_eq_true'] at hb43; exact hb43
       have hb43m := Spec.inF_threeN hb43
       iterate 3 refine st_skip rfl rfl rfl ?_
       refine st_op (ev_pickT rfl rfl) rfl rfl rfl ?_
       try show aw _ _ _ _ _ _
       refine aw_cond (t := true) rfl ?_
       try show aw _ _ _ _ _ _
       refine aw_seq ?_
       refine aw_reg ?_
       refine st_op (ev_assign rfl) rfl rfl rfl ?_
       try show aw _ _ _ _ _ _
       refine aw_ret ?_
       have hx44 : Ext H H41 := (Ext.trans (Ext.trans (Ext.trans (Ext.trans (Ext.trans (Ext.trans hx6 hx11) hx17) hx26) hx29) hx39) hx42)
       have hres : (Spec.mayMsg kind from_ to_ term index logterm commit yes es s_index s_term s_conf s_data) = false := by first | exact Spec.mayMsg_f1 (by omega) | exact Spec.mayMsg_f2 (by assumption) | exact Spec.mayMsg_f3 (by assumption) (by omega) (by omega) | (rw [Spec.mayMsg_last (by omega) (by assumption) (fun h => by first | omega | exact Bool.noConfusion (h.symm.trans (show yes = false by assumption)))]; rw [if_pos (by omega), show (Spec.decC s_conf).2 = false by assumption]; rfl)
       exact ⟨.bool false, rfl, by first | (rw [hres]; done) | rw [← hres], hx44⟩
      ·
       replace hb43 : (Spec.inF (0 : Int) 1099511627776 ([index, logterm, commit])) = true := by rw [Bool.not_eq_false'] at hb43; exact hb43
       have hb43m := Spec.inF_three hb43
       have hx46 : Ext H28 H41 := (Ext.trans hx39 hx42)
       have h45 := Ext.blk hx46 (by omega) h32
       refine st_op (ev_load rfl (lvar_part (l := [.int .i64 kind, .int .i64 from_, .int .i64 to_, .int .i64 term, .int .i64 index, .int .i64 logterm, .int .i64 commit, .bool yes, .slice esA es.length esc, .int .i64 s_index, .int .i64 s_term, .string s_conf, .string s_data]) many26 h45 rfl rfl (by decide))) rfl rfl rfl ?_
       refine st_call rfl rfl rfl ent42 rfl rfl rfl ?_
       have hx48 : Ext H H41 := (Ext.trans (Ext.trans (Ext.trans (Ext.trans (Ext.trans (Ext.trans hx6 hx11) hx17) hx26) hx29) hx39) hx42)
       have h47 := Row.ext hes hx48
       obtain ⟨_, H50, hs49, hs49v, hx51⟩ := raft_entries_spec H41 kind from_ to_ term index ⟨by omega, by omega⟩ logterm commit yes esA es esc h47 ces (by first | omega | (simp only [List.length_append, List.length_cons, List.length_nil, List.length_map, List.length_set, List.length_replicate, Spec.bytesOf_length]; omega) | (simp; omega)) s_index s_term s_conf (by first | omega | (simp only [List.length_append, List.length_cons, List.length_nil, List.length_map, List.length_set, List.length_replicate, Spec.bytesOf_length]; omega) | (simp; omega)) s_data (by first | omega | (simp only [List.length_append, List.length_cons, List.length_nil, List.length_map, List.length_set, List.length_replicate, Spec.bytesOf_length]; omega) | (simp; omega))
       rw [hs49v] at hs49; clear hs49v
       refine ⟨_, H50, hs49, ?_⟩
       have H50n : H41.next ≤ H50.next := hx51.1
       refine st_op (ev_not rfl) rfl rfl rfl ?_
       refine st_op (ev_pickF rfl rfl) rfl rfl rfl ?_
       try show aw _ _ _ _ _ _
       by_cases hc52 : (!(Spec.entR term index logterm es && decide (es.length ≤ 8 ∧ (es.length = 0 ∨ kind = 3)))) = true
       ·
        refine aw_condT hc52 rfl ?_
        try show aw _ _ _ _ _ _
        replace hc52 : (Spec.entR term index logterm es && decide (es.length ≤ 8 ∧ (es.length = 0 ∨ kind = 3))) = false := by rw [Bool.not_eq_true'] at hc52; exact hc52
        refine aw_seq ?_
        refine aw_reg ?_
        refine st_op (ev_assign rfl) rfl rfl rfl ?_
        try show aw _ _ _ _ _ _
        refine aw_ret ?_
        have hx53 : Ext H H50 := (Ext.trans hx48 hx51)
        have hres : (Spec.mayMsg kind from_ to_ term index logterm commit yes es s_index s_term s_conf s_data) = false := by first | exact Spec.mayMsg_f1 (by omega) | exact Spec.mayMsg_f2 (by assumption) | exact Spec.mayMsg_f3 (by assumption) (by omega) (by omega) | (rw [Spec.mayMsg_last (by omega) (by assumption) (fun h => by first | omega | exact Bool.noConfusion (h.symm.trans (show yes = false by assumption)))]; rw [if_pos (by omega), show (Spec.decC s_conf).2 = false by assumption]; rfl)
        exact ⟨.bool false, rfl, by first | (rw [hres]; done) | rw [← hres], hx53⟩
       ·
        rw [Bool.not_eq_true] at hc52; refine aw_condF hc52 rfl ?_
        try show aw _ _ _ _ _ _
        replace hc52 : (Spec.entR term index logterm es && decide (es.length ≤ 8 ∧ (es.length = 0 ∨ kind = 3))) = true := by rw [Bool.not_eq_false'] at hc52; exact hc52
        refine aw_skip ?_
        try show aw _ _ _ _ _ _
        iterate 2 refine aw_seq ?_
        refine aw_reg ?_
        refine st_op (ev_fieldAddr rfl fa26_7 (o' := 7) rfl) rfl rfl rfl ?_
        have h54 := Ext.blk hx51 (by omega) h45
        refine st_op (ev_load rfl (lvar_one one4 h54 rfl)) rfl rfl rfl ?_
        refine st_op (ev_move rfl) rfl rfl rfl ?_
        refine st_bool 50 rfl (fun hb55 => ?_) (fun hb55 => ?_)
        ·
         refine st_op (ev_fieldAddr rfl fa26_0 (o' := 0) rfl) rfl rfl rfl ?_
         refine st_op (ev_load rfl (lvar_one one3 h54 rfl)) rfl rfl rfl ?_
         refine st_op (ev_int rfl rfl rfl) rfl rfl rfl ?_
         refine st_op (ev_pickT rfl rfl) rfl rfl rfl ?_
         refine st_op (ev_move rfl) rfl rfl rfl ?_
         refine st_bool 55 rfl (fun hb56 => ?_) (fun hb56 => ?_)
         ·
          have hb56 : ¬ (kind = 2) := by simpa using hb56
          refine st_op (ev_fieldAddr rfl fa26_0 (o' := 0) rfl) rfl rfl rfl ?_
          refine st_op (ev_load rfl (lvar_one one3 h54 rfl)) rfl rfl rfl ?_
          refine st_op (ev_int rfl rfl rfl) rfl rfl rfl ?_
          refine st_op (ev_pickT rfl rfl) rfl rfl rfl ?_
          try show aw _ _ _ _ _ _
          by_cases hc57 : (kind != 4) = true
          ·
           refine aw_condT hc57 rfl ?_
           try show aw _ _ _ _ _ _
           have hc57 : ¬ (kind = 4) := by simpa using hc57
           refine aw_seq ?_
           refine aw_reg ?_
           refine st_op (ev_assign rfl) rfl rfl rfl ?_
           try show aw _ _ _ _ _ _
           refine aw_ret ?_
           have hx58 : Ext H H50 := (Ext.trans hx48 hx51)
           have hres : (Spec.mayMsg kind from_ to_ term index logterm commit yes es s_index s_term s_conf s_data) = false := by first | exact Spec.mayMsg_f1 (by omega) | exact Spec.mayMsg_f2 (by assumption) | exact Spec.mayMsg_f3 (by assumption) (by omega) (by omega) | (rw [Spec.mayMsg_last (by omega) (by assumption) (fun h => by first | omega | exact Bool.noConfusion (h.symm.trans (show yes = false by assumption)))]; rw [if_pos (by omega), show (Spec.decC s_conf).2 = false by assumption]; rfl)
           exact ⟨.bool false, rfl, by first | (rw [hres]; done) | rw [← hres], hx58⟩
          ·
           rw [Bool.not_eq_true] at hc57; refine aw_condF hc57 rfl ?_
           try show aw _ _ _ _ _ _
           have hc57 : (kind = 4) := by simpa using hc57
           refine aw_skip ?_
           try show aw _ _ _ _ _ _
           iterate 2 refine aw_seq ?_
           refine aw_reg ?_
           refine st_op (ev_fieldAddr rfl fa26_0 (o' := 0) rfl) rfl rfl rfl ?_
           refine st_op (ev_load rfl (lvar_one one3 h54 rfl)) rfl rfl rfl ?_
           refine st_op (ev_int rfl rfl rfl) rfl rfl rfl ?_
           try show aw _ _ _ _ _ _
           by_cases hc59 : (kind != 5) = true
           ·
            refine aw_condT hc59 rfl ?_
            try show aw _ _ _ _ _ _
            have hc59 : ¬ (kind = 5) := by simpa using hc59
            refine aw_seq ?_
            refine aw_reg ?_
            refine st_op (ev_fieldAddr rfl fa26_9 (o' := 9) rfl) rfl rfl rfl ?_
            refine st_op (ev_load rfl (lvar_part (l := [.int .i64 s_index, .int .i64 s_term, .string s_conf, .string s_data]) many24 h54 rfl rfl (by decide))) rfl rfl rfl ?_
            refine st_op (ev_build zero24 pl24 (parts := []) rfl (cs := [.int .i64 0, .int .i64 0, .string (⟨#[]⟩), .string (⟨#[]⟩)]) rfl) rfl rfl rfl ?_
            obtain ⟨q60, hq61, hi62⟩ : ∃ q, bin.eqCells [.int .i64 s_index, .int .i64 s_term, .string s_conf, .string s_data] [.int .i64 0, .int .i64 0, .string (⟨#[]⟩), .string (⟨#[]⟩)] = some q ∧ (q = true ↔ s_index = 0 ∧ s_term = 0 ∧ s_conf = (⟨#[]⟩ : ByteArray) ∧ s_data = (⟨#[]⟩ : ByteArray)) := ⟨_, rfl, by simp [Bool.and_eq_true, ba_beq]⟩
            refine st_op (ev_agg rfl rfl (by rw [eqt24, show fitAgg Try.prog 24 (#[.int .i64 s_index, .int .i64 s_term, .string s_conf, .string s_data] : Array Value).toList = true from fit24 s_index s_term s_conf s_data]; rfl) hq61 rfl) rfl rfl rfl ?_
            refine st_op (ev_assign rfl) rfl rfl rfl ?_
            try show aw _ _ _ _ _ _
            refine aw_ret ?_
            have hx63 : Ext H H50 := (Ext.trans hx48 hx51)
            have hres : (Spec.mayMsg kind from_ to_ term index logterm commit yes es s_index s_term s_conf s_data) = q60 := by rw [Spec.mayMsg_last (by omega) (by assumption) (fun h => by first | omega | exact Bool.noConfusion (h.symm.trans (show yes = false by assumption)))]; rw [if_neg (by omega)]; exact Spec.snap0_iff (by assumption)
            exact ⟨.bool q60, rfl, by first | (rw [hres]; done) | rw [← hres], hx63⟩
           ·
            rw [Bool.not_eq_true] at hc59; refine aw_condF hc59 rfl ?_
            try show aw _ _ _ _ _ _
            have hc59 : (kind = 5) := by simpa using hc59
            exfalso; omega
         ·
          have hb56 : (kind = 2) := by simpa using hb56
          iterate 3 refine st_skip rfl rfl rfl ?_
          refine st_op (ev_pickF rfl rfl) rfl rfl rfl ?_
          try show aw _ _ _ _ _ _
          refine aw_cond (t := false) rfl ?_
          try show aw _ _ _ _ _ _
          refine aw_skip ?_
          try show aw _ _ _ _ _ _
          iterate 2 refine aw_seq ?_
          refine aw_reg ?_
          refine st_op (ev_fieldAddr rfl fa26_0 (o' := 0) rfl) rfl rfl rfl ?_
          refine st_op (ev_load rfl (lvar_one one3 h54 rfl)) rfl rfl rfl ?_
          refine st_op (ev_int rfl rfl rfl) rfl rfl rfl ?_
          try show aw _ _ _ _ _ _
          by_cases hc64 : (kind != 5) = true
          ·
           refine aw_condT hc64 rfl ?_
           try show aw _ _ _ _ _ _
           have hc64 : ¬ (kind = 5) := by simpa using hc64
           refine aw_seq ?_
           refine aw_reg ?_
           refine st_op (ev_fieldAddr rfl fa26_9 (o' := 9) rfl) rfl rfl rfl ?_
           refine st_op (ev_load rfl (lvar_part (l := [.int .i64 s_index, .int .i64 s_term, .string s_conf, .string s_data]) many24 h54 rfl rfl (by decide))) rfl rfl rfl ?_
           refine st_op (ev_build zero24 pl24 (parts := []) rfl (cs := [.int .i64 0, .int .i64 0, .string (⟨#[]⟩), .string (⟨#[]⟩)]) rfl) rfl rfl rfl ?_
           obtain ⟨q65, hq66, hi67⟩ : ∃ q, bin.eqCells [.int .i64 s_index, .int .i64 s_term, .string s_conf, .string s_data] [.int .i64 0, .int .i64 0, .string (⟨#[]⟩), .string (⟨#[]⟩)] = some q ∧ (q = true ↔ s_index = 0 ∧ s_term = 0 ∧ s_conf = (⟨#[]⟩ : ByteArray) ∧ s_data = (⟨#[]⟩ : ByteArray)) := ⟨_, rfl, by simp [Bool.and_eq_true, ba_beq]⟩
           refine st_op (ev_agg rfl rfl (by rw [eqt24, show fitAgg Try.prog 24 (#[.int .i64 s_index, .int .i64 s_term, .string s_conf, .string s_data] : Array Value).toList = true from fit24 s_index s_term s_conf s_data]; rfl) hq66 rfl) rfl rfl rfl ?_
           refine st_op (ev_assign rfl) rfl rfl rfl ?_
           try show aw _ _ _ _ _ _
           refine aw_ret ?_
           have hx68 : Ext H H50 := (Ext.trans hx48 hx51)
           have hres : (Spec.mayMsg kind from_ to_ term index logterm commit yes es s_index s_term s_conf s_data) = q65 := by rw [Spec.mayMsg_last (by omega) (by assumption) (fun h => by first | omega | exact Bool.noConfusion (h.symm.trans (show yes = false by assumption)))]; rw [if_neg (by omega)]; exact Spec.snap0_iff (by assumption)
           exact ⟨.bool q65, rfl, by first | (rw [hres]; done) | rw [← hres], hx68⟩
          ·
           rw [Bool.not_eq_true] at hc64; refine aw_condF hc64 rfl ?_
           try show aw _ _ _ _ _ _
           have hc64 : (kind = 5) := by simpa using hc64
           exfalso; omega
        ·
         iterate 3 refine st_skip rfl rfl rfl ?_
         refine st_op (ev_pickF rfl rfl) rfl rfl rfl ?_
         refine st_op (ev_move rfl) rfl rfl rfl ?_
         iterate 3 refine st_skip rfl rfl rfl ?_
         refine st_op (ev_pickF rfl rfl) rfl rfl rfl ?_
         try show aw _ _ _ _ _ _
         refine aw_cond (t := false) rfl ?_
         try show aw _ _ _ _ _ _
         refine aw_skip ?_
         try show aw _ _ _ _ _ _
         iterate 2 refine aw_seq ?_
         refine aw_reg ?_
         refine st_op (ev_fieldAddr rfl fa26_0 (o' := 0) rfl) rfl rfl rfl ?_
         refine st_op (ev_load rfl (lvar_one one3 h54 rfl)) rfl rfl rfl ?_
         refine st_op (ev_int rfl rfl rfl) rfl rfl rfl ?_
         try show aw _ _ _ _ _ _
         by_cases hc69 : (kind != 5) = true
         ·
          refine aw_condT hc69 rfl ?_
          try show aw _ _ _ _ _ _
          have hc69 : ¬ (kind = 5) := by simpa using hc69
          refine aw_seq ?_
          refine aw_reg ?_
          refine st_op (ev_fieldAddr rfl fa26_9 (o' := 9) rfl) rfl rfl rfl ?_
          refine st_op (ev_load rfl (lvar_part (l := [.int .i64 s_index, .int .i64 s_term, .string s_conf, .string s_data]) many24 h54 rfl rfl (by decide))) rfl rfl rfl ?_
          refine st_op (ev_build zero24 pl24 (parts := []) rfl (cs := [.int .i64 0, .int .i64 0, .string (⟨#[]⟩), .string (⟨#[]⟩)]) rfl) rfl rfl rfl ?_
          obtain ⟨q70, hq71, hi72⟩ : ∃ q, bin.eqCells [.int .i64 s_index, .int .i64 s_term, .string s_conf, .string s_data] [.int .i64 0, .int .i64 0, .string (⟨#[]⟩), .string (⟨#[]⟩)] = some q ∧ (q = true ↔ s_index = 0 ∧ s_term = 0 ∧ s_conf = (⟨#[]⟩ : ByteArray) ∧ s_data = (⟨#[]⟩ : ByteArray)) := ⟨_, rfl, by simp [Bool.and_eq_true, ba_beq]⟩
          refine st_op (ev_agg rfl rfl (by rw [eqt24, show fitAgg Try.prog 24 (#[.int .i64 s_index, .int .i64 s_term, .string s_conf, .string s_data] : Array Value).toList = true from fit24 s_index s_term s_conf s_data]; rfl) hq71 rfl) rfl rfl rfl ?_
          refine st_op (ev_assign rfl) rfl rfl rfl ?_
          try show aw _ _ _ _ _ _
          refine aw_ret ?_
          have hx73 : Ext H H50 := (Ext.trans hx48 hx51)
          have hres : (Spec.mayMsg kind from_ to_ term index logterm commit yes es s_index s_term s_conf s_data) = q70 := by rw [Spec.mayMsg_last (by omega) (by assumption) (fun h => by first | omega | exact Bool.noConfusion (h.symm.trans (show yes = false by assumption)))]; rw [if_neg (by omega)]; exact Spec.snap0_iff (by assumption)
          exact ⟨.bool q70, rfl, by first | (rw [hres]; done) | rw [← hres], hx73⟩
         ·
          rw [Bool.not_eq_true] at hc69; refine aw_condF hc69 rfl ?_
          try show aw _ _ _ _ _ _
          have hc69 : (kind = 5) := by simpa using hc69
          refine aw_skip ?_
          try show aw _ _ _ _ _ _
          refine aw_seq ?_
          refine aw_reg ?_
          refine st_op (ev_fieldAddr rfl fa26_9 (o' := 9) rfl) rfl rfl rfl ?_
          refine st_op (ev_fieldAddr rfl fa24_2 (o' := 11) rfl) rfl rfl rfl ?_
          refine st_op (ev_load rfl (lvar_one one9 h54 rfl)) rfl rfl rfl ?_
          refine st_call rfl rfl rfl ent43 rfl rfl rfl ?_
          obtain ⟨_, H75, hs74, A77, c78, hs74v, hm79, hx76⟩ := conf_Decode_spec H50 s_conf (by omega)
          rw [hs74v] at hs74; clear hs74v
          refine ⟨_, H75, hs74, ?_⟩
          have H75n : H50.next ≤ H75.next := hx76.1
          refine st_op (ev_move rfl) rfl rfl rfl ?_
          iterate 2 refine st_op (ev_extract rfl rfl) rfl rfl rfl ?_
          iterate 2 refine st_op (ev_assign rfl) rfl rfl rfl ?_
          try show aw _ _ _ _ _ _
          refine aw_seq ?_
          refine aw_reg ?_
          iterate 2 refine st_op (ev_move rfl) rfl rfl rfl ?_
          refine st_bool 75 rfl (fun hb80 => ?_) (fun hb80 => ?_)
          ·
           refine st_op (ev_fieldAddr rfl fa26_9 (o' := 9) rfl) rfl rfl rfl ?_
           have h81 := Ext.blk hx76 (by omega) h54
           refine st_op (ev_load rfl (lvar_part (l := [.int .i64 s_index, .int .i64 s_term, .string s_conf, .string s_data]) many24 h81 rfl rfl (by decide))) rfl rfl rfl ?_
           refine st_call rfl rfl rfl ent44 rfl rfl rfl ?_
           obtain ⟨_, H83, hs82, A85, c86, hs82v, hm87, hq88, hq89, hq90, hx84⟩ := wal_PutSnap_spec H75 s_index s_term s_conf s_data
           rw [hs82v] at hs82; clear hs82v
           refine ⟨_, H83, hs82, ?_⟩
           have H83n : H75.next ≤ H83.next := hx84.1
           refine st_op (ev_nilSlNe rfl rfl Try.underlying29) rfl rfl rfl ?_
           refine st_op (ev_pickT rfl rfl) rfl rfl rfl ?_
           refine st_op (ev_assign rfl) rfl rfl rfl ?_
           try show aw _ _ _ _ _ _
           refine aw_ret ?_
           have hx91 : Ext H H83 := (Ext.trans (Ext.trans (Ext.trans hx48 hx51) hx76) hx84)
           have hres : (Spec.mayMsg kind from_ to_ term index logterm commit yes es s_index s_term s_conf s_data) = (!(Option.isNone A85)) := by rw [Spec.mayMsg_last (by omega) (by assumption) (fun h => by first | omega | exact Bool.noConfusion (h.symm.trans (show yes = false by assumption)))]; rw [if_pos (by omega), show (Spec.decC s_conf).2 = true by assumption, Bool.true_and]; exact (Spec.nil_iff (by assumption)).symm
           exact ⟨.bool (!(Option.isNone A85)), rfl, by first | (rw [hres]; done) | rw [← hres], hx91⟩
          ·
           iterate 4 refine st_skip rfl rfl rfl ?_
           refine st_op (ev_pickF rfl rfl) rfl rfl rfl ?_
           refine st_op (ev_assign rfl) rfl rfl rfl ?_
           try show aw _ _ _ _ _ _
           refine aw_ret ?_
           have hx92 : Ext H H75 := (Ext.trans (Ext.trans hx48 hx51) hx76)
           have hres : (Spec.mayMsg kind from_ to_ term index logterm commit yes es s_index s_term s_conf s_data) = false := by first | exact Spec.mayMsg_f1 (by omega) | exact Spec.mayMsg_f2 (by assumption) | exact Spec.mayMsg_f3 (by assumption) (by omega) (by omega) | (rw [Spec.mayMsg_last (by omega) (by assumption) (fun h => by first | omega | exact Bool.noConfusion (h.symm.trans (show yes = false by assumption)))]; rw [if_pos (by omega), show (Spec.decC s_conf).2 = false by assumption]; rfl)
           exact ⟨.bool false, rfl, by first | (rw [hres]; done) | rw [← hres], hx92⟩
theorem wal_Encode_spec (H : Heap) (r_hard : Bool) (r_h_term : Int) (r_h_vote : Int) (r_e_index : Int) (r_e_term : Int) (r_e_kind : Int) (r_e_data : ByteArray) : ∃ v H', Spec Try.prog 45 [.agg #[.bool r_hard, .int .i64 r_h_term, .int .i64 r_h_vote, .int .i64 r_e_index, .int .i64 r_e_term, .int .i64 r_e_kind, .string r_e_data]] H v H' ∧ (∃ rA0 rc0, (v = .slice rA0 ((Spec.encodeF r_hard r_h_term r_h_vote r_e_index r_e_term r_e_kind r_e_data).length) rc0) ∧ (My H H' rA0 rc0 1 ((Spec.encodeF r_hard r_h_term r_h_vote r_e_index r_e_term r_e_kind r_e_data).map u8c)) ∧ (((Spec.encodeF r_hard r_h_term r_h_vote r_e_index r_e_term r_e_kind r_e_data)).length ≤ 2550) ∧ (Ext H H')) := by
 refine spec_go1 E0_ok 38 (f := 45) Try.func45 rfl rfl rfl ?_
 refine aw_seq ?_
 refine aw_reg ?_
 obtain ⟨b1, H2, he3, b1e, H2n_, hB5, f4⟩ := mem_box (P := Try.prog) H (v := .agg #[.bool r_hard, .int .i64 r_h_term, .int .i64 r_h_vote, .int .i64 r_e_index, .int .i64 r_e_term, .int .i64 r_e_kind, .string r_e_data]) (cs := [.bool r_hard, .int .i64 r_h_term, .int .i64 r_h_vote, .int .i64 r_e_index, .int .i64 r_e_term, .int .i64 r_e_kind, .string r_e_data]) rfl rfl
 refine st_op (he3 _ _ _ _ _ _ _ _ _ rfl) rfl rfl rfl ?_
 have hx6 : Ext H H2 := Ext.new (by omega) H2n_ f4
 have H2n : H.next ≤ H2.next := hx6.1
 refine st_op (ev_assign rfl) rfl rfl rfl ?_
 try show aw _ _ _ _ _ _
 refine aw_seq ?_
 refine aw_block ?_
 refine aw_seq ?_
 refine aw_reg ?_
 refine st_op (ev_load rfl (lvar_part (l := [.bool r_hard, .int .i64 r_h_term, .int .i64 r_h_vote, .int .i64 r_e_index, .int .i64 r_e_term, .int .i64 r_e_kind, .string r_e_data]) many82 hB5 rfl rfl (by decide))) rfl rfl rfl ?_
 refine st_call rfl rfl rfl ent58 rfl rfl rfl ?_
 obtain ⟨_, H8, hs7, hs7v, hx9⟩ := wal_May_spec H2 r_hard r_h_term r_h_vote r_e_index r_e_term r_e_kind r_e_data
 rw [hs7v] at hs7; clear hs7v
 refine ⟨_, H8, hs7, ?_⟩
 have H8n : H2.next ≤ H8.next := hx9.1
 refine st_op (ev_not rfl) rfl rfl rfl ?_
 refine st_op (ev_assign rfl) rfl rfl rfl ?_
 try show aw _ _ _ _ _ _
 by_cases hc10 : (!(Spec.mayF r_hard r_h_term r_h_vote r_e_index r_e_term r_e_kind r_e_data)) = true
 ·
  refine aw_condT hc10 rfl ?_
  try show aw _ _ _ _ _ _
  replace hc10 : (Spec.mayF r_hard r_h_term r_h_vote r_e_index r_e_term r_e_kind r_e_data) = false := by rw [Bool.not_eq_true'] at hc10; exact hc10
  refine aw_seq ?_
  refine aw_reg ?_
  refine st_op (ev_assign rfl) rfl rfl rfl ?_
  try show aw _ _ _ _ _ _
  refine aw_ret ?_
  have hm11 : My H8 H8 none 0 1 (([] : List Int).map u8c) := .nil
  have hx12 : Ext H H8 := (Ext.trans hx6 hx9)
  have hres : (Spec.encodeF r_hard r_h_term r_h_vote r_e_index r_e_term r_e_kind r_e_data) = ([] : List Int) := by unfold Spec.encodeF; rw [if_neg (by simp_all)]
  exact ⟨.slice none 0 0, rfl, none, 0, by first | (rw [hres]; first | done | rfl | simp; done) | rfl, (by rw [hres]; exact (My.older hm11 (by omega))), (by exact Spec.encodeF_len _ _ _ _ _ _ _), hx12⟩
 ·
  rw [Bool.not_eq_true] at hc10; refine aw_condF hc10 rfl ?_
  try show aw _ _ _ _ _ _
  replace hc10 : (Spec.mayF r_hard r_h_term r_h_vote r_e_index r_e_term r_e_kind r_e_data) = true := by rw [Bool.not_eq_false'] at hc10; exact hc10
  have hc10m := Spec.may_says hc10
  refine aw_seq ?_
  refine aw_reg ?_
  refine st_op (ev_fieldAddr rfl fa82_0 (o' := 0) rfl) rfl rfl rfl ?_
  have h13 := Ext.blk hx9 (by omega) hB5
  refine st_op (ev_load rfl (lvar_one one4 h13 rfl)) rfl rfl rfl ?_
  refine st_op (ev_assign rfl) rfl rfl rfl ?_
  try show aw _ _ _ _ _ _
  by_cases hc14 : r_hard = true
  ·
   refine aw_condT hc14 rfl ?_
   try show aw _ _ _ _ _ _
   refine aw_seq ?_
   refine aw_marks (fun b => b < H8.next) [(false, false), (false, false), (false, false), (false, true), (false, false), (false, false), (true, false), (false, false), (false, false), (false, false)] mixed (by kernel_rfl) (by kernel_rfl) ?_
   refine sm_op (ev_fieldAddr rfl fa82_1 (o' := 1) rfl) rfl rfl rfl ?_
   refine sm_op (ev_fieldAddr rfl fa80_0 (o' := 1) rfl) rfl rfl rfl ?_
   refine sm_op (ev_load rfl (lvar_one one2 h13 rfl)) rfl rfl rfl ?_
   refine sm_call rfl rfl rfl ent26 rfl rfl rfl ?_
   have hm15 : My H8 H8 none 0 1 (([] : List Int).map u8c) := .nil
   obtain ⟨_, H17, hs16, A19, c20, hs16v, hm21, hq22, hx18⟩ := num_Put_spec H8 H8 none ([] : List Int) 0 hm15 (by omega) (by first | omega | (simp only [List.length_append, List.length_cons, List.length_nil, List.length_map, List.length_set, List.length_replicate, Spec.bytesOf_length]; omega) | (simp; omega)) r_h_term ⟨by omega, by omega⟩
   rw [hs16v] at hs16; clear hs16v
   refine ⟨_, H17, hs16, (fun _ b hb => hx18.2 b (by omega) (fun e => by omega)), ?_⟩
   have H17n : H8.next ≤ H17.next := hx18.1
   refine sm_op (ev_fieldAddr rfl fa82_1 (o' := 1) rfl) rfl rfl rfl ?_
   refine sm_op (ev_fieldAddr rfl fa80_1 (o' := 2) rfl) rfl rfl rfl ?_
   have hx24 : Ext H8 H17 := (Ext.then (Ext.refl H8) hx18 (fun q hq e => by omega))
   have h23 := Ext.blk hx24 (by omega) h13
   refine sm_read (ev_load rfl (lvar_one one3 h23 rfl)) rfl rfl rfl (fun b hb => by cases hb; dsimp only <;> omega) ?_
   refine sm_call rfl rfl rfl ent26 rfl rfl rfl ?_
   obtain ⟨_, H26, hs25, A28, c29, hs25v, hm30, hq31, hx27⟩ := num_Put_spec H17 H8 A19 (([] : List Int) ++ Spec.enc (Spec.zig r_h_term)) c20 hm21 (by omega) (by first | omega | (simp only [List.length_append, List.length_cons, List.length_nil, List.length_map, List.length_set, List.length_replicate, Spec.bytesOf_length]; omega) | (simp; omega)) r_h_vote ⟨by omega, by omega⟩
   rw [hs25v] at hs25; clear hs25v
   refine ⟨_, H26, hs25, (fun _ b hb => hx27.2 b (by omega) (fun e => by omega)), ?_⟩
   have H26n : H17.next ≤ H26.next := hx27.1
   refine sm_call rfl rfl rfl ent25 rfl rfl rfl ?_
   obtain ⟨_, H33, hs32, A35, c36, hs32v, hm37, hq38, hq39, hx34⟩ := frame_Seal_spec H26 1 (by decide) A28 ((([] : List Int) ++ Spec.enc (Spec.zig r_h_term)) ++ Spec.enc (Spec.zig r_h_vote)) c29 (My.row hm30) (My.capF hm30 (by first | omega | (simp only [List.length_append, List.length_cons, List.length_nil, List.length_map, List.length_set, List.length_replicate, Spec.bytesOf_length]; omega) | (simp; omega))) (by first | omega | (simp only [List.length_append, List.length_cons, List.length_nil, List.length_map, List.length_set, List.length_replicate, Spec.bytesOf_length]; omega) | (simp; omega)) (by first | assumption | exact Spec.Bytes.nil | exact Spec.bytes_of _ | (repeat' first | assumption | exact Spec.Bytes.nil | exact Spec.bytes_of _ | exact Spec.enc_bytes _ | exact Spec.four_bytes _ | exact Spec.sealF_bytes (by assumption) | apply Spec.Bytes.append | apply Spec.Bytes.cons (by omega) | apply Spec.Bytes.take | apply Spec.Bytes.drop))
   rw [hs32v] at hs32; clear hs32v
   refine ⟨_, H33, hs32, (fun _ b hb => hx34.2 b (by omega)), ?_⟩
   have H33n : H26.next ≤ H33.next := hx34.1
   refine sm_op (ev_assign rfl) rfl rfl rfl ?_
   try show aw _ _ _ _ _ _
   refine aw_ret ?_
   have hx40 : Ext H H33 := (Ext.trans (Ext.then (Ext.then (Ext.trans hx6 hx9) hx18 (fun q hq e => by omega)) hx27 (fun q hq e => by omega)) hx34)
   have hres : (Spec.encodeF r_hard r_h_term r_h_vote r_e_index r_e_term r_e_kind r_e_data) = (Spec.sealF (1 : Int) ((([] : List Int) ++ Spec.enc (Spec.zig r_h_term)) ++ Spec.enc (Spec.zig r_h_vote))) := by first | exact Spec.enc_hard (by assumption) (by assumption) | exact Spec.enc_entry (by assumption) (by assumption)
   exact ⟨.slice A35 ((Spec.sealF (1 : Int) ((([] : List Int) ++ Spec.enc (Spec.zig r_h_term)) ++ Spec.enc (Spec.zig r_h_vote))).length) c36, rfl, A35, c36, by first | (rw [hres]; first | done | rfl | simp; done) | rfl, (by rw [hres]; exact (My.older hm37 (by omega))), (by exact Spec.encodeF_len _ _ _ _ _ _ _), hx40⟩
  ·
   rw [Bool.not_eq_true] at hc14; refine aw_condF hc14 rfl ?_
   try show aw _ _ _ _ _ _
   refine aw_skip ?_
   try show aw _ _ _ _ _ _
   refine aw_seq ?_
   refine aw_marks (fun b => b < H8.next) [(false, false), (false, false), (false, false), (false, true), (false, false), (false, false), (true, false), (false, true), (false, false), (false, false), (true, false), (false, false), (false, false)] mixed (by kernel_rfl) (by kernel_rfl) ?_
   refine sm_op (ev_fieldAddr rfl fa82_2 (o' := 3) rfl) rfl rfl rfl ?_
   refine sm_op (ev_fieldAddr rfl fa45_0 (o' := 3) rfl) rfl rfl rfl ?_
   refine sm_op (ev_load rfl (lvar_one one2 h13 rfl)) rfl rfl rfl ?_
   refine sm_call rfl rfl rfl ent26 rfl rfl rfl ?_
   have hm41 : My H8 H8 none 0 1 (([] : List Int).map u8c) := .nil
   obtain ⟨_, H43, hs42, A45, c46, hs42v, hm47, hq48, hx44⟩ := num_Put_spec H8 H8 none ([] : List Int) 0 hm41 (by omega) (by first | omega | (simp only [List.length_append, List.length_cons, List.length_nil, List.length_map, List.length_set, List.length_replicate, Spec.bytesOf_length]; omega) | (simp; omega)) r_e_index ⟨by omega, by omega⟩
   rw [hs42v] at hs42; clear hs42v
   refine ⟨_, H43, hs42, (fun _ b hb => hx44.2 b (by omega) (fun e => by omega)), ?_⟩
   have H43n : H8.next ≤ H43.next := hx44.1
   refine sm_op (ev_fieldAddr rfl fa82_2 (o' := 3) rfl) rfl rfl rfl ?_
   refine sm_op (ev_fieldAddr rfl fa45_1 (o' := 4) rfl) rfl rfl rfl ?_
   have hx50 : Ext H8 H43 := (Ext.then (Ext.refl H8) hx44 (fun q hq e => by omega))
   have h49 := Ext.blk hx50 (by omega) h13
   refine sm_read (ev_load rfl (lvar_one one2 h49 rfl)) rfl rfl rfl (fun b hb => by cases hb; dsimp only <;> omega) ?_
   refine sm_call rfl rfl rfl ent26 rfl rfl rfl ?_
   obtain ⟨_, H52, hs51, A54, c55, hs51v, hm56, hq57, hx53⟩ := num_Put_spec H43 H8 A45 (([] : List Int) ++ Spec.enc (Spec.zig r_e_index)) c46 hm47 (by omega) (by first | omega | (simp only [List.length_append, List.length_cons, List.length_nil, List.length_map, List.length_set, List.length_replicate, Spec.bytesOf_length]; omega) | (simp; omega)) r_e_term ⟨by omega, by omega⟩
   rw [hs51v] at hs51; clear hs51v
   refine ⟨_, H52, hs51, (fun _ b hb => hx53.2 b (by omega) (fun e => by omega)), ?_⟩
   have H52n : H43.next ≤ H52.next := hx53.1
   refine sm_op (ev_fieldAddr rfl fa82_2 (o' := 3) rfl) rfl rfl rfl ?_
   refine sm_op (ev_fieldAddr rfl fa45_2 (o' := 5) rfl) rfl rfl rfl ?_
   have hx59 : Ext H8 H52 := (Ext.then hx50 hx53 (fun q hq e => by omega))
   have h58 := Ext.blk hx59 (by omega) h13
   refine sm_read (ev_load rfl (lvar_one one3 h58 rfl)) rfl rfl rfl (fun b hb => by cases hb; dsimp only <;> omega) ?_
   refine sm_call rfl rfl rfl ent26 rfl rfl rfl ?_
   obtain ⟨_, H61, hs60, A63, c64, hs60v, hm65, hq66, hx62⟩ := num_Put_spec H52 H8 A54 ((([] : List Int) ++ Spec.enc (Spec.zig r_e_index)) ++ Spec.enc (Spec.zig r_e_term)) c55 hm56 (by omega) (by first | omega | (simp only [List.length_append, List.length_cons, List.length_nil, List.length_map, List.length_set, List.length_replicate, Spec.bytesOf_length]; omega) | (simp; omega)) r_e_kind ⟨by omega, by omega⟩
   rw [hs60v] at hs60; clear hs60v
   refine ⟨_, H61, hs60, (fun _ b hb => hx62.2 b (by omega) (fun e => by omega)), ?_⟩
   have H61n : H52.next ≤ H61.next := hx62.1
   refine sm_op (ev_assign rfl) rfl rfl rfl ?_
   try show aw _ _ _ _ _ _
   refine aw_seq ?_
   refine aw_reg ?_
   refine st_op (ev_move rfl) rfl rfl rfl ?_
   refine st_op (ev_fieldAddr rfl fa82_2 (o' := 3) rfl) rfl rfl rfl ?_
   refine st_op (ev_fieldAddr rfl fa45_3 (o' := 6) rfl) rfl rfl rfl ?_
   have hx68 : Ext H8 H61 := (Ext.then hx59 hx62 (fun q hq e => by omega))
   have h67 := Ext.blk hx68 (by omega) h13
   refine st_op (ev_load rfl (lvar_one one9 h67 rfl)) rfl rfl rfl ?_
   refine st_call rfl rfl rfl ent61 rfl rfl rfl ?_
   obtain ⟨_, H70, hs69, A72, c73, hs69v, hm74, hq75, hx71⟩ := num_PutText_spec H61 H8 A63 (((([] : List Int) ++ Spec.enc (Spec.zig r_e_index)) ++ Spec.enc (Spec.zig r_e_term)) ++ Spec.enc (Spec.zig r_e_kind)) c64 hm65 (by omega) (by first | omega | (simp only [List.length_append, List.length_cons, List.length_nil, List.length_map, List.length_set, List.length_replicate, Spec.bytesOf_length]; omega) | (simp; omega)) r_e_data (by omega)
   rw [hs69v] at hs69; clear hs69v
   refine ⟨_, H70, hs69, ?_⟩
   have H70n : H61.next ≤ H70.next := hx71.1
   refine st_call rfl rfl rfl ent25 rfl rfl rfl ?_
   obtain ⟨_, H77, hs76, A79, c80, hs76v, hm81, hq82, hq83, hx78⟩ := frame_Seal_spec H70 2 (by decide) A72 ((((([] : List Int) ++ Spec.enc (Spec.zig r_e_index)) ++ Spec.enc (Spec.zig r_e_term)) ++ Spec.enc (Spec.zig r_e_kind)) ++ Spec.enc (Spec.zig (r_e_data.size : Int)) ++ Spec.bytesOf r_e_data) c73 (My.row hm74) (My.capF hm74 (by first | omega | (simp only [List.length_append, List.length_cons, List.length_nil, List.length_map, List.length_set, List.length_replicate, Spec.bytesOf_length]; omega) | (simp; omega))) (by first | omega | (simp only [List.length_append, List.length_cons, List.length_nil, List.length_map, List.length_set, List.length_replicate, Spec.bytesOf_length]; omega) | (simp; omega)) (by first | assumption | exact Spec.Bytes.nil | exact Spec.bytes_of _ | (repeat' first | assumption | exact Spec.Bytes.nil | exact Spec.bytes_of _ | exact Spec.enc_bytes _ | exact Spec.four_bytes _ | exact Spec.sealF_bytes (by assumption) | apply Spec.Bytes.append | apply Spec.Bytes.cons (by omega) | apply Spec.Bytes.take | apply Spec.Bytes.drop))
   rw [hs76v] at hs76; clear hs76v
   refine ⟨_, H77, hs76, ?_⟩
   have H77n : H70.next ≤ H77.next := hx78.1
   refine st_op (ev_assign rfl) rfl rfl rfl ?_
   try show aw _ _ _ _ _ _
   refine aw_ret ?_
   have hx84 : Ext H H77 := (Ext.trans (Ext.then (Ext.then (Ext.then (Ext.then (Ext.trans hx6 hx9) hx44 (fun q hq e => by omega)) hx53 (fun q hq e => by omega)) hx62 (fun q hq e => by omega)) hx71 (fun q hq e => by omega)) hx78)
   have hres : (Spec.encodeF r_hard r_h_term r_h_vote r_e_index r_e_term r_e_kind r_e_data) = (Spec.sealF (2 : Int) ((((([] : List Int) ++ Spec.enc (Spec.zig r_e_index)) ++ Spec.enc (Spec.zig r_e_term)) ++ Spec.enc (Spec.zig r_e_kind)) ++ Spec.enc (Spec.zig (r_e_data.size : Int)) ++ Spec.bytesOf r_e_data)) := by first | exact Spec.enc_hard (by assumption) (by assumption) | exact Spec.enc_entry (by assumption) (by assumption)
   exact ⟨.slice A79 ((Spec.sealF (2 : Int) ((((([] : List Int) ++ Spec.enc (Spec.zig r_e_index)) ++ Spec.enc (Spec.zig r_e_term)) ++ Spec.enc (Spec.zig r_e_kind)) ++ Spec.enc (Spec.zig (r_e_data.size : Int)) ++ Spec.bytesOf r_e_data)).length) c80, rfl, A79, c80, by first | (rw [hres]; first | done | rfl | simp; done) | rfl, (by rw [hres]; exact (My.older hm81 (by omega))), (by exact Spec.encodeF_len _ _ _ _ _ _ _), hx84⟩

end Go.AM
