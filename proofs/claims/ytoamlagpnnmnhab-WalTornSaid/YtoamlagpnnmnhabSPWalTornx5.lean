-- Written for this claim by a program of this seat (a turned copy of the printer)
import Derived.Test.YtoamlagpnnmnhabSPWalTornx0
import Derived.Test.YtoamlagpnnmnhabSPWalTornx3
import Derived.Test.YtoamlagpnnmnhabSPWalTornx4
namespace Go.Proofs.Ytoamlagpnnmnhab.PWalTorn
open Go.RowKit Go.Proofs.YtoamlagpnnmnhabW.PrintWords Go.Proofs.YtoamlagpnnmnhabW.PrintLast Go.Proofs.YtoamlagpnnmnhabW.PrintMore
attribute [local go_sem] max2_int min2_int max_two min_two max_three min_three max_four min_four   -- for this text's walks alone
set_option linter.unusedVariables false
set_option linter.unusedSimpArgs false

/-! ### frame_Open: function 38 -/
def frame_Open.j0 : Nat → List Int → Int → Int → Int → Bool → Option (Int × List Int × Int × Int)
  | 0, _, _, _, _, _ => none
  | k + 1, x0, x6, x7, x8, x28 => if x28 = true then (some (0, ([] : List Int), 0, 2)) else (if x8 = 0 then (if x6 < 0 then (some (0, ([] : List Int), 0, 3)) else (if x6 > 4000 then (some (0, ([] : List Int), 0, 3)) else (if (x0.length : Int) < (wrap64 ((wrap64 ((wrap64 (1 + x7)) + 4)) + x6)) then (some (0, ([] : List Int), 0, 2)) else (if 0 ≤ (wrap64 ((wrap64 (1 + x7)) + 4)) then (if (wrap64 ((wrap64 (1 + x7)) + 4)) ≤ (wrap64 ((wrap64 ((wrap64 (1 + x7)) + 4)) + x6)) then (if (wrap64 ((wrap64 ((wrap64 (1 + x7)) + 4)) + x6)) ≤ (x0.length : Int) then (if 0 ≤ (wrap64 (1 + x7)) then (if (wrap64 (1 + x7)) ≤ (x0.length : Int) then ((crc_Sum.f k (x0.take ((wrap64 (1 + x7)) : Int).toNat)).bind fun t179 => ((crc_More.f k t179 ((x0.take ((wrap64 ((wrap64 ((wrap64 (1 + x7)) + 4)) + x6)) : Int).toNat).drop ((wrap64 ((wrap64 (1 + x7)) + 4)) : Int).toNat)).bind fun t180 => ((num_Four.f t180).bind fun t181 => (if (wrap64 (1 + x7)) ≤ (wrap64 ((wrap64 (1 + x7)) + 4)) then (if (wrap64 ((wrap64 (1 + x7)) + 4)) ≤ (x0.length : Int) then (if (strOfNums t181).toList = (strOfNums ((x0.take ((wrap64 ((wrap64 (1 + x7)) + 4)) : Int).toNat).drop ((wrap64 (1 + x7)) : Int).toNat)).toList then (if 0 < (x0.length : Int) then (if ([] : List Int).length + ((x0.take ((wrap64 ((wrap64 ((wrap64 (1 + x7)) + 4)) + x6)) : Int).toNat).drop ((wrap64 ((wrap64 (1 + x7)) + 4)) : Int).toNat).length < 140737488355328 then (some (wrap64 (rd x0 0), (([] : List Int) ++ ((x0.take ((wrap64 ((wrap64 ((wrap64 (1 + x7)) + 4)) + x6)) : Int).toNat).drop ((wrap64 ((wrap64 (1 + x7)) + 4)) : Int).toNat)), wrap64 ((wrap64 ((wrap64 (1 + x7)) + 4)) + x6), 0)) else (none)) else (none)) else (some (0, ([] : List Int), 0, 3))) else (none)) else (none))))) else (none)) else (none)) else (none)) else (none)) else (none))))) else (some (0, ([] : List Int), 0, 3)))
def frame_Open.f (k : Nat) (l0 : List Int) : Option (Int × List Int × Int × Int) := if (l0.length : Int) = 0 then (some (0, ([] : List Int), 0, 2)) else (if 0 < (l0.length : Int) then (if (rd l0 0) = 0 then (some (0, ([] : List Int), 0, 3)) else (if 1 ≤ (l0.length : Int) then ((num_Get.f k (l0.drop 1)).bind fun bt174 => (if bt174.2.2 = 2 then (frame_Open.j0 k l0 bt174.1 bt174.2.1 bt174.2.2 (decide ((l0.length : Int) ≤ 2))) else (frame_Open.j0 k l0 bt174.1 bt174.2.1 bt174.2.2 false))) else (none))) else (none))
theorem frame_Open.mono_l : ∀ k, (∀ y0 y1 y2 y3 y4, LeO (frame_Open.j0 k y0 y1 y2 y3 y4) (frame_Open.j0 (k + 1) y0 y1 y2 y3 y4))
  | 0 => fun _ _ _ _ _ r h => by simp [frame_Open.j0] at h
  | k + 1 => by
    have ih0 := frame_Open.mono_l k
    · intro y0 y1 y2 y3 y4
      unfold frame_Open.j0
      repeat' first
      | (with_reducible exact ih0 _ _ _ _ _)
      | (with_reducible exact crc_More.mono _ _ _)
      | (with_reducible exact crc_Sum.mono _ _)
      | (with_reducible exact num_Get.mono _ _)
      | (with_reducible exact LeO.refl _)
      | (with_reducible exact LeO.none _)
      | (with_reducible refine LeO.ite ?_ ?_)
      | (with_reducible refine LeO.bind ?_ (fun _ => ?_))
      | exact ih0 _ _ _ _ _
      | exact crc_More.mono _ _ _
      | exact crc_Sum.mono _ _
      | exact num_Get.mono _ _
      | exact LeO.none _
      | refine LeO.ite ?_ ?_
      | refine LeO.bind ?_ (fun _ => ?_)
theorem frame_Open.mono : ∀ a0 k, LeO (frame_Open.f k a0) (frame_Open.f (k + 1) a0) := by
  intro a0 k
  have ih0 := frame_Open.mono_l k
  unfold frame_Open.f
  repeat' first
      | (with_reducible exact ih0 _ _ _ _ _)
      | (with_reducible exact crc_More.mono _ _ _)
      | (with_reducible exact crc_Sum.mono _ _)
      | (with_reducible exact num_Get.mono _ _)
      | (with_reducible exact LeO.refl _)
      | (with_reducible exact LeO.none _)
      | (with_reducible refine LeO.ite ?_ ?_)
      | (with_reducible refine LeO.bind ?_ (fun _ => ?_))
      | exact ih0 _ _ _ _ _
      | exact crc_More.mono _ _ _
      | exact crc_Sum.mono _ _
      | exact num_Get.mono _ _
      | exact LeO.none _
      | refine LeO.ite ?_ ?_
      | refine LeO.bind ?_ (fun _ => ?_)
def frame_Open.T15 : Bool × List (List Nat × List Nat) := (true, [([], []), ([], []), ([0, 1], [0, 1]), ([2], [2]), ([], []), ([3, 4, 3], [3, 4]), ([5, 5], [5]), ([6], [6]), ([], []), ([], []), ([], []), ([10], [10]), ([8, 9, 11], [8, 9, 11]), ([12], [12]), ([7, 13], [7, 13])])
def frame_Open.B15 : List Nat := [0, 0, 3, 7, 0, 31, 63, 127, 0, 0, 0, 1024, 3840, 7936, 16383]
theorem frame_Open.tab15 : rtab .any (opsOf Try.f38 15) = frame_Open.T15 := by kernel_rfl
theorem frame_Open.bits15 : waitsOk frame_Open.T15.2 frame_Open.B15 = true := by kernel_rfl
def frame_Open.T17 : Bool × List (List Nat × List Nat) := (true, [([], []), ([0], [0]), ([1], [1]), ([2], [2]), ([], []), ([4], [4]), ([], []), ([3, 5, 0, 1, 2, 3], [3]), ([5, 7, 0, 1, 2, 3, 4, 5, 7], [5]), ([6, 8, 0, 1, 2, 3, 4, 5, 6, 7, 8], [6]), ([9, 0, 1, 2, 3, 4, 5, 6, 7, 8, 9], [])])
def frame_Open.B17 : List Nat := [0, 1, 3, 7, 0, 16, 0, 63, 191, 511, 1023]
theorem frame_Open.tab17 : rtab .any (opsOf Try.f38 17) = frame_Open.T17 := by kernel_rfl
theorem frame_Open.bits17 : waitsOk frame_Open.T17.2 frame_Open.B17 = true := by kernel_rfl
set_option maxHeartbeats 8000000 in
set_option maxRecDepth 100000 in
theorem frame_Open.calls (k : Nat) (A0 : Option Addr) (c0 : Nat) (l0 : List Int) (r1 : Int) (r2 : List Int) (r3 : Int) (r4 : Int) (w : World) (hr0 : Kd.C (Kd.int .u8) w A0 l0.length l0) (hc0 : l0.length ≤ c0) (h : frame_Open.f k l0 = some (r1, r2, r3, r4)) :
    Calls Try.prog 38 #[.slice A0 l0.length c0] w fun e w' => ∃ v1_ : Value, e = .returned (.tuple #[.int .i64 r1, v1_, .int .i64 r3, .int .i64 r4]) ∧ Kd.R (Kd.int .u8) 5 w' w.heap.size (fun _ => True) v1_ r2 ∧ Below w.heap.size w w' := by
  have HR0 := Aside0.mk hr0
  have HC0 := Aside0.mk hc0
  clear hr0 hc0
  have HB := Aside0.mk (Below.refl w.heap.size w)
  have H : (if (l0.length : Int) = 0 then (some (0, ([] : List Int), 0, 2)) else (if 0 < (l0.length : Int) then (if (rd l0 0) = 0 then (some (0, ([] : List Int), 0, 3)) else (if 1 ≤ (l0.length : Int) then ((num_Get.f k (l0.drop 1)).bind fun bt174 => (if bt174.2.2 = 2 then (frame_Open.j0 k l0 bt174.1 bt174.2.1 bt174.2.2 (decide ((l0.length : Int) ≤ 2))) else (frame_Open.j0 k l0 bt174.1 bt174.2.1 bt174.2.2 false))) else (none))) else (none))) = some (r1, r2, r3, r4) := h
  clear h
  by_cases c2 : (l0.length : Int) = 0
  · rw [if_pos c2] at H
    have c2b0 : ((l0.length : Int) == 0) = true := beq_iff_eq.mpr c2
    have c2b1 : ((l0.length : Int) != 0) = false := bne_eq_false_iff_eq.mpr c2
    clear c2
    simp only [Option.some.injEq, Prod.mk.injEq] at H
    obtain ⟨rfl, rfl, rfl, rfl⟩ := H
    go_enter Try.func38, Try.ntmps38
    go_wp2
    refine bodyPost_ret (results_list (rs := [.tmp 2, .tmp 3, .tmp 4, .tmp 5]) rfl (by simp) (.tmp (.tmp (.tmp (.tmp .nil))))) rfl ?_
    exact ⟨_, by first | rfl | (simp [errW_none, errW_some] <;> rfl) | (simp [*, errW_none, errW_some] <;> rfl), by first | exact Kd.R_nil _ _ _ _ _ | exact Kd.N_nil _ _ _ _ _ | exact Kd.V_nil _ _ _ _ _ | exact Kd.Q_nil _ _ _ _ _ | exact Kd.S_nil _ _ _ _ _, by repeat (first | (with_reducible first | exact HB.out | apply below_alloc | apply pw_below_drewN | apply below_drew1) | exact HB.out)⟩
  · rw [if_neg c2] at H
    have c2b0 : ((l0.length : Int) == 0) = false := beq_eq_false_iff_ne.mpr c2
    have c2b1 : ((l0.length : Int) != 0) = true := bne_iff_ne.mpr c2
    have c2b2 : ¬ (l0 = []) := fun h_ => c2 (by rw [h_]; rfl)
    by_cases c3 : 0 < (l0.length : Int)
    · rw [if_pos c3] at H
      have c3b0 : decide (0 < (l0.length : Int)) = true := decide_eq_true c3
      have c3b1 : decide (0 < l0.length) = true := decide_eq_true (by omega)
      clear c3
      by_cases c4 : (rd l0 0) = 0
      · rw [if_pos c4] at H
        have c4b0 : ((rd l0 0) == 0) = true := beq_iff_eq.mpr c4
        have c4b1 : ((rd l0 0) != 0) = false := bne_eq_false_iff_eq.mpr c4
        clear c4
        simp only [Option.some.injEq, Prod.mk.injEq] at H
        obtain ⟨rfl, rfl, rfl, rfl⟩ := H
        have p172 : 0 ≤ (0 : Int) := (by omega)
        have q172 : 0 < (l0.length : Int) := of_decide_eq_true (by first | (with_reducible assumption) | assumption)
        obtain ⟨ad172, e172, hx172_0⟩ := Kd.at_int HR0.out 0 p172 q172
        cases e172
        have qi172 : (0 < l0.length) = True := eq_true (by omega)
        (try rw [show ((0 : Int)).toNat = 0 from rfl] at hx172_0)
        (try rw [Addr.add_zero'] at hx172_0)
        replace p172 := eq_true p172
        replace q172 := eq_true q172
        go_enter Try.func38, Try.ntmps38
        go_wp2
        refine bodyPost_ret (results_list (rs := [.tmp 2, .tmp 3, .tmp 4, .tmp 5]) rfl (by simp) (.tmp (.tmp (.tmp (.tmp .nil))))) rfl ?_
        exact ⟨_, by first | rfl | (simp [errW_none, errW_some] <;> rfl) | (simp [*, errW_none, errW_some] <;> rfl), by first | exact Kd.R_nil _ _ _ _ _ | exact Kd.N_nil _ _ _ _ _ | exact Kd.V_nil _ _ _ _ _ | exact Kd.Q_nil _ _ _ _ _ | exact Kd.S_nil _ _ _ _ _, by repeat (first | (with_reducible first | exact HB.out | apply below_alloc | apply pw_below_drewN | apply below_drew1) | exact HB.out)⟩
      · rw [if_neg c4] at H
        have c4b0 : ((rd l0 0) == 0) = false := beq_eq_false_iff_ne.mpr c4
        have c4b1 : ((rd l0 0) != 0) = true := bne_iff_ne.mpr c4
        by_cases c5 : 1 ≤ (l0.length : Int)
        · rw [if_pos c5] at H
          have c5b0 := eq_true c5
          have c5b1 : decide (1 ≤ (l0.length : Int)) = true := decide_eq_true c5
          clear c5
          replace H := Option.bind_eq_some_iff.mp H
          obtain ⟨⟨t174, t175, t176⟩, A60, H⟩ := H
          replace H : (if t176 = 2 then (frame_Open.j0 k l0 t174 t175 t176 (decide ((l0.length : Int) ≤ 2))) else (frame_Open.j0 k l0 t174 t175 t176 false)) = some (r1, r2, r3, r4) := H
          have A6 := Aside0.mk A60
          clear A60
          have HC7 := Aside0.mk H
          clear H
          have p172 : 0 ≤ (0 : Int) := (by omega)
          have q172 : 0 < (l0.length : Int) := of_decide_eq_true (by first | (with_reducible assumption) | assumption)
          obtain ⟨ad172, e172, hx172_0⟩ := Kd.at_int HR0.out 0 p172 q172
          cases e172
          have qi172 : (0 < l0.length) = True := eq_true (by omega)
          (try rw [show ((0 : Int)).toNat = 0 from rfl] at hx172_0)
          (try rw [Addr.add_zero'] at hx172_0)
          replace p172 := eq_true p172
          replace q172 := eq_true q172
          obtain ⟨i08, hi08, _, hsz8, _⟩ := info_parts info5
          obtain ⟨A8, hcut8, hA8, hC8⟩ := print_drop_of (P := Try.prog) (Value.int .u8) 0 30 5 .i64 Try.underlying30 hi08 hsz8 (some ad172) c0 l0 1 (by omega) (of_decide_eq_true (by first | (with_reducible assumption) | assumption)) HC0.out
          have HR173 := Aside0.mk (Kd.C_of_reads (h1 := fun _ => rfl) (hA8 _ (Kd.reads_of_C HR0.out)))
          have HC173 := Aside0.mk hC8
          clear hA8 hC8 hi08 hsz8
          go_enter Try.func38, Try.ntmps38
          go_upto_region 6 with (first | ((with_reducible refine gate_callee (f := 50) rfl ?_); refine goesL_ (some 24) rfl rfl Try.func50 (by kernel_rfl) rfl #[.slice A8 (l0.drop 1).length (c0 - 1)] rfl (by (try simp only [List.map_toArray, List.map_cons, List.map_nil]); first | done | (rw [show (l0.drop 1).length = (l0.length - 1) from List.length_drop] <;> rfl) | rfl | (simp only [List.length_drop, List.length_take]; rfl)) ?_; (with_reducible refine (num_Get.calls k _ _ (l0.drop 1) t174 t175 t176 _ ?side1 ?side2 A6.out).mono ?_); (case side1 => repeat (first | exact HR173.out | (with_reducible refine Kd.C_alloc ?_ _) | (with_reducible refine Kd.C_drewN ?_ _) | (with_reducible refine Kd.C_drew ?_))); (case side2 => exact HC173.out); rintro e w' ⟨rfl, ⟨nd, rfl⟩⟩; refine ⟨_, rfl, ?_⟩))
          (try simp only [Act.put, List.setIfInBounds_toArray, List.set_cons_zero, List.set_cons_succ])
          go_cut [28] (fun v28 wc => ∃ (kq : Nat) (x28_6 : Bool), v28 = .bool x28_6 ∧ Aside0 (frame_Open.j0 kq l0 t174 t175 t176 x28_6 = some (r1, r2, r3, r4)) ∧ Aside0 (kq ≤ k) ∧ Aside0 (Below w.heap.size w wc))
          case first =>
            have H := HC7.out
            clear HC7
            by_cases c9 : t176 = 2
            · rw [if_pos c9] at H
              have c9b0 : (t176 == 2) = true := beq_iff_eq.mpr c9
              have c9b1 : (t176 != 2) = false := bne_eq_false_iff_eq.mpr c9
              clear c9
              (first | rw [c9b0] | (simp only [i64_w, i32_w]; rw [c9b0]) | skip)
              have H' := Aside0.mk H
              clear H
              go_wp2
              go_meet
              case rel => exact ⟨_, (decide ((l0.length : Int) ≤ 2)), (by first | rfl | (simp; done) | (simp [*]; done)), H', ⟨by first | omega | exact Nat.le_refl _⟩, ⟨by repeat (first | (with_reducible first | exact HB.out | apply below_alloc | apply pw_below_drewN | apply below_drew1) | exact HB.out)⟩⟩
            · rw [if_neg c9] at H
              have c9b0 : (t176 == 2) = false := beq_eq_false_iff_ne.mpr c9
              have c9b1 : (t176 != 2) = true := bne_iff_ne.mpr c9
              (first | rw [c9b0] | (simp only [i64_w, i32_w]; rw [c9b0]) | skip)
              have H' := Aside0.mk H
              clear H
              go_wp2
              go_meet
              case rel => exact ⟨_, (false), (by first | rfl | (simp; done) | (simp [*]; done)), H', ⟨by first | omega | exact Nat.le_refl _⟩, ⟨by repeat (first | (with_reducible first | exact HB.out | apply below_alloc | apply pw_below_drewN | apply below_drew1) | exact HB.out)⟩⟩
          case rest =>
            clear HC7
            try clear p1
            try clear q1
            try clear hx1
            try clear qi1
            try clear c2
            try clear c2b0
            try clear c2b1
            try clear c2b2
            try clear p2
            try clear c3
            try clear c3b0
            try clear c3b1
            try clear c4
            try clear c4b0
            try clear c4b1
            try clear c5
            try clear c5b0
            try clear c5b1
            try clear c9
            try clear c9b0
            try clear c9b1
            try clear hx172_0
            try clear p172
            try clear q172
            obtain ⟨kq, x28_6, rfl, HA, HJ6, HB⟩ := hcut
            cases kq with
            | zero => exact absurd HA.out (by simp [frame_Open.j0])
            | succ kj6 =>
              have H := HA.out
              clear HA
              simp only [frame_Open.j0] at H
              by_cases c10 : x28_6 = true
              · subst c10
                have H1 : (some (0, ([] : List Int), 0, 2)) = some (r1, r2, r3, r4) := by rw [if_pos rfl] at H; exact H
                clear H
                have H := H1
                clear H1
                simp only [Option.some.injEq, Prod.mk.injEq] at H
                obtain ⟨rfl, rfl, rfl, rfl⟩ := H
                go_wp2
                refine bodyPost_ret (results_list (rs := [.tmp 2, .tmp 3, .tmp 4, .tmp 5]) rfl (by simp) (.tmp (.tmp (.tmp (.tmp .nil))))) rfl ?_
                exact ⟨_, by first | rfl | (simp [errW_none, errW_some] <;> rfl) | (simp [*, errW_none, errW_some] <;> rfl), by first | exact Kd.R_nil _ _ _ _ _ | exact Kd.N_nil _ _ _ _ _ | exact Kd.V_nil _ _ _ _ _ | exact Kd.Q_nil _ _ _ _ _ | exact Kd.S_nil _ _ _ _ _, by repeat (first | (with_reducible first | exact HB.out | apply below_alloc | apply pw_below_drewN | apply below_drew1) | exact HB.out)⟩
              · replace c10 := Bool.eq_false_iff.mpr c10
                subst c10
                have H1 : (if t176 = 0 then (if t174 < 0 then (some (0, ([] : List Int), 0, 3)) else (if t174 > 4000 then (some (0, ([] : List Int), 0, 3)) else (if (l0.length : Int) < (wrap64 ((wrap64 ((wrap64 (1 + t175)) + 4)) + t174)) then (some (0, ([] : List Int), 0, 2)) else (if 0 ≤ (wrap64 ((wrap64 (1 + t175)) + 4)) then (if (wrap64 ((wrap64 (1 + t175)) + 4)) ≤ (wrap64 ((wrap64 ((wrap64 (1 + t175)) + 4)) + t174)) then (if (wrap64 ((wrap64 ((wrap64 (1 + t175)) + 4)) + t174)) ≤ (l0.length : Int) then (if 0 ≤ (wrap64 (1 + t175)) then (if (wrap64 (1 + t175)) ≤ (l0.length : Int) then ((crc_Sum.f kj6 (l0.take ((wrap64 (1 + t175)) : Int).toNat)).bind fun t179 => ((crc_More.f kj6 t179 ((l0.take ((wrap64 ((wrap64 ((wrap64 (1 + t175)) + 4)) + t174)) : Int).toNat).drop ((wrap64 ((wrap64 (1 + t175)) + 4)) : Int).toNat)).bind fun t180 => ((num_Four.f t180).bind fun t181 => (if (wrap64 (1 + t175)) ≤ (wrap64 ((wrap64 (1 + t175)) + 4)) then (if (wrap64 ((wrap64 (1 + t175)) + 4)) ≤ (l0.length : Int) then (if (strOfNums t181).toList = (strOfNums ((l0.take ((wrap64 ((wrap64 (1 + t175)) + 4)) : Int).toNat).drop ((wrap64 (1 + t175)) : Int).toNat)).toList then (if 0 < (l0.length : Int) then (if ([] : List Int).length + ((l0.take ((wrap64 ((wrap64 ((wrap64 (1 + t175)) + 4)) + t174)) : Int).toNat).drop ((wrap64 ((wrap64 (1 + t175)) + 4)) : Int).toNat).length < 140737488355328 then (some (wrap64 (rd l0 0), (([] : List Int) ++ ((l0.take ((wrap64 ((wrap64 ((wrap64 (1 + t175)) + 4)) + t174)) : Int).toNat).drop ((wrap64 ((wrap64 (1 + t175)) + 4)) : Int).toNat)), wrap64 ((wrap64 ((wrap64 (1 + t175)) + 4)) + t174), 0)) else (none)) else (none)) else (some (0, ([] : List Int), 0, 3))) else (none)) else (none))))) else (none)) else (none)) else (none)) else (none)) else (none))))) else (some (0, ([] : List Int), 0, 3))) = some (r1, r2, r3, r4) := by rw [if_neg (show ¬ (false = true) by decide)] at H; exact H
                clear H
                have H := H1
                clear H1
                by_cases c11 : t176 = 0
                · rw [if_pos c11] at H
                  have c11b0 : (t176 == 0) = true := beq_iff_eq.mpr c11
                  have c11b1 : (t176 != 0) = false := bne_eq_false_iff_eq.mpr c11
                  clear c11
                  by_cases c12 : t174 < 0
                  · rw [if_pos c12] at H
                    have c12b0 : decide (t174 < 0) = true := decide_eq_true c12
                    clear c12
                    simp only [Option.some.injEq, Prod.mk.injEq] at H
                    obtain ⟨rfl, rfl, rfl, rfl⟩ := H
                    go_wp2
                    refine bodyPost_ret (results_list (rs := [.tmp 2, .tmp 3, .tmp 4, .tmp 5]) rfl (by simp) (.tmp (.tmp (.tmp (.tmp .nil))))) rfl ?_
                    exact ⟨_, by first | rfl | (simp [errW_none, errW_some] <;> rfl) | (simp [*, errW_none, errW_some] <;> rfl), by first | exact Kd.R_nil _ _ _ _ _ | exact Kd.N_nil _ _ _ _ _ | exact Kd.V_nil _ _ _ _ _ | exact Kd.Q_nil _ _ _ _ _ | exact Kd.S_nil _ _ _ _ _, by repeat (first | (with_reducible first | exact HB.out | apply below_alloc | apply pw_below_drewN | apply below_drew1) | exact HB.out)⟩
                  · rw [if_neg c12] at H
                    have c12b0 : decide (t174 < 0) = false := decide_eq_false c12
                    clear c12
                    by_cases c13 : t174 > 4000
                    · rw [if_pos c13] at H
                      have c13b0 : decide (4000 < t174) = true := decide_eq_true c13
                      clear c13
                      simp only [Option.some.injEq, Prod.mk.injEq] at H
                      obtain ⟨rfl, rfl, rfl, rfl⟩ := H
                      go_wp2
                      refine bodyPost_ret (results_list (rs := [.tmp 2, .tmp 3, .tmp 4, .tmp 5]) rfl (by simp) (.tmp (.tmp (.tmp (.tmp .nil))))) rfl ?_
                      exact ⟨_, by first | rfl | (simp [errW_none, errW_some] <;> rfl) | (simp [*, errW_none, errW_some] <;> rfl), by first | exact Kd.R_nil _ _ _ _ _ | exact Kd.N_nil _ _ _ _ _ | exact Kd.V_nil _ _ _ _ _ | exact Kd.Q_nil _ _ _ _ _ | exact Kd.S_nil _ _ _ _ _, by repeat (first | (with_reducible first | exact HB.out | apply below_alloc | apply pw_below_drewN | apply below_drew1) | exact HB.out)⟩
                    · rw [if_neg c13] at H
                      have c13b0 : decide (4000 < t174) = false := decide_eq_false c13
                      clear c13
                      by_cases c14 : (l0.length : Int) < (wrap64 ((wrap64 ((wrap64 (1 + t175)) + 4)) + t174))
                      · rw [if_pos c14] at H
                        have c14b0 : decide ((l0.length : Int) < (wrap64 ((wrap64 ((wrap64 (1 + t175)) + 4)) + t174))) = true := decide_eq_true c14
                        clear c14
                        simp only [Option.some.injEq, Prod.mk.injEq] at H
                        obtain ⟨rfl, rfl, rfl, rfl⟩ := H
                        go_wp2
                        refine bodyPost_ret (results_list (rs := [.tmp 2, .tmp 3, .tmp 4, .tmp 5]) rfl (by simp) (.tmp (.tmp (.tmp (.tmp .nil))))) rfl ?_
                        exact ⟨_, by first | rfl | (simp [errW_none, errW_some] <;> rfl) | (simp [*, errW_none, errW_some] <;> rfl), by first | exact Kd.R_nil _ _ _ _ _ | exact Kd.N_nil _ _ _ _ _ | exact Kd.V_nil _ _ _ _ _ | exact Kd.Q_nil _ _ _ _ _ | exact Kd.S_nil _ _ _ _ _, by repeat (first | (with_reducible first | exact HB.out | apply below_alloc | apply pw_below_drewN | apply below_drew1) | exact HB.out)⟩
                      · rw [if_neg c14] at H
                        have c14b0 : decide ((l0.length : Int) < (wrap64 ((wrap64 ((wrap64 (1 + t175)) + 4)) + t174))) = false := decide_eq_false c14
                        clear c14
                        obtain ⟨ji15, hji15⟩ : ∃ j_ : Int, (wrap64 ((wrap64 (1 + t175)) + 4)) = j_ := ⟨_, rfl⟩
                        replace H : (if 0 ≤ (ji15) then (if (ji15) ≤ (wrap64 ((ji15) + t174)) then (if (wrap64 ((ji15) + t174)) ≤ (l0.length : Int) then (if 0 ≤ (wrap64 (1 + t175)) then (if (wrap64 (1 + t175)) ≤ (l0.length : Int) then ((crc_Sum.f kj6 (l0.take ((wrap64 (1 + t175)) : Int).toNat)).bind fun t179 => ((crc_More.f kj6 t179 ((l0.take ((wrap64 ((ji15) + t174)) : Int).toNat).drop ((ji15) : Int).toNat)).bind fun t180 => ((num_Four.f t180).bind fun t181 => (if (wrap64 (1 + t175)) ≤ (ji15) then (if (ji15) ≤ (l0.length : Int) then (if (strOfNums t181).toList = (strOfNums ((l0.take ((ji15) : Int).toNat).drop ((wrap64 (1 + t175)) : Int).toNat)).toList then (if 0 < (l0.length : Int) then (if ([] : List Int).length + ((l0.take ((wrap64 ((ji15) + t174)) : Int).toNat).drop ((ji15) : Int).toNat).length < 140737488355328 then (some (wrap64 (rd l0 0), (([] : List Int) ++ ((l0.take ((wrap64 ((ji15) + t174)) : Int).toNat).drop ((ji15) : Int).toNat)), wrap64 ((ji15) + t174), 0)) else (none)) else (none)) else (some (0, ([] : List Int), 0, 3))) else (none)) else (none))))) else (none)) else (none)) else (none)) else (none)) else (none)) = some (r1, r2, r3, r4) := by first | (rw [hji15] at H; exact H) | (simp only [hji15] at H ⊢; exact H)
                        (try rw [hji15] at c14b0)
                        have hji15w : (IntKind.i64.wrap ((wrap64 (1 + t175)) + 4)) = ji15 := (i64_w _).trans hji15
                        by_cases c16 : 0 ≤ (ji15)
                        · rw [if_pos c16] at H
                          have c16b0 := eq_true c16
                          have c16b1 : decide (0 ≤ (ji15)) = true := decide_eq_true c16
                          clear c16
                          by_cases c17 : (ji15) ≤ (wrap64 ((ji15) + t174))
                          · rw [if_pos c17] at H
                            have c17b0 := eq_true c17
                            have c17b1 : decide ((ji15) ≤ (wrap64 ((ji15) + t174))) = true := decide_eq_true c17
                            by_cases c18 : (wrap64 ((ji15) + t174)) ≤ (l0.length : Int)
                            · rw [if_pos c18] at H
                              have c18b0 := eq_true c18
                              have c18b1 : decide ((wrap64 ((ji15) + t174)) ≤ (l0.length : Int)) = true := decide_eq_true c18
                              obtain ⟨ji19, hji19⟩ : ∃ j_ : Int, (wrap64 (1 + t175)) = j_ := ⟨_, rfl⟩
                              replace H : (if 0 ≤ (ji19) then (if (ji19) ≤ (l0.length : Int) then ((crc_Sum.f kj6 (l0.take ((ji19) : Int).toNat)).bind fun t179 => ((crc_More.f kj6 t179 ((l0.take ((wrap64 ((ji15) + t174)) : Int).toNat).drop ((ji15) : Int).toNat)).bind fun t180 => ((num_Four.f t180).bind fun t181 => (if (ji19) ≤ (ji15) then (if (ji15) ≤ (l0.length : Int) then (if (strOfNums t181).toList = (strOfNums ((l0.take ((ji15) : Int).toNat).drop ((ji19) : Int).toNat)).toList then (if 0 < (l0.length : Int) then (if ([] : List Int).length + ((l0.take ((wrap64 ((ji15) + t174)) : Int).toNat).drop ((ji15) : Int).toNat).length < 140737488355328 then (some (wrap64 (rd l0 0), (([] : List Int) ++ ((l0.take ((wrap64 ((ji15) + t174)) : Int).toNat).drop ((ji15) : Int).toNat)), wrap64 ((ji15) + t174), 0)) else (none)) else (none)) else (some (0, ([] : List Int), 0, 3))) else (none)) else (none))))) else (none)) else (none)) = some (r1, r2, r3, r4) := by first | (rw [hji19] at H; exact H) | (simp only [hji19] at H ⊢; exact H)
                              (try rw [hji19] at c14b0)
                              (try rw [hji19] at hji15)
                              (try rw [hji19] at hji15w)
                              have hji19w : (IntKind.i64.wrap (1 + t175)) = ji19 := (i64_w _).trans hji19
                              by_cases c20 : 0 ≤ (ji19)
                              · rw [if_pos c20] at H
                                have c20b0 := eq_true c20
                                have c20b1 : decide (0 ≤ (ji19)) = true := decide_eq_true c20
                                clear c20
                                by_cases c21 : (ji19) ≤ (l0.length : Int)
                                · rw [if_pos c21] at H
                                  have c21b0 := eq_true c21
                                  have c21b1 : decide ((ji19) ≤ (l0.length : Int)) = true := decide_eq_true c21
                                  clear c21
                                  replace H := Option.bind_eq_some_iff.mp H
                                  obtain ⟨t179, A220, H⟩ := H
                                  replace H : ((crc_More.f kj6 t179 ((l0.take ((wrap64 ((ji15) + t174)) : Int).toNat).drop ((ji15) : Int).toNat)).bind fun t180 => ((num_Four.f t180).bind fun t181 => (if (ji19) ≤ (ji15) then (if (ji15) ≤ (l0.length : Int) then (if (strOfNums t181).toList = (strOfNums ((l0.take ((ji15) : Int).toNat).drop ((ji19) : Int).toNat)).toList then (if 0 < (l0.length : Int) then (if ([] : List Int).length + ((l0.take ((wrap64 ((ji15) + t174)) : Int).toNat).drop ((ji15) : Int).toNat).length < 140737488355328 then (some (wrap64 (rd l0 0), (([] : List Int) ++ ((l0.take ((wrap64 ((ji15) + t174)) : Int).toNat).drop ((ji15) : Int).toNat)), wrap64 ((ji15) + t174), 0)) else (none)) else (none)) else (some (0, ([] : List Int), 0, 3))) else (none)) else (none)))) = some (r1, r2, r3, r4) := H
                                  have A22 := Aside0.mk A220
                                  clear A220
                                  replace H := Option.bind_eq_some_iff.mp H
                                  obtain ⟨t180, A230, H⟩ := H
                                  replace H : ((num_Four.f t180).bind fun t181 => (if (ji19) ≤ (ji15) then (if (ji15) ≤ (l0.length : Int) then (if (strOfNums t181).toList = (strOfNums ((l0.take ((ji15) : Int).toNat).drop ((ji19) : Int).toNat)).toList then (if 0 < (l0.length : Int) then (if ([] : List Int).length + ((l0.take ((wrap64 ((ji15) + t174)) : Int).toNat).drop ((ji15) : Int).toNat).length < 140737488355328 then (some (wrap64 (rd l0 0), (([] : List Int) ++ ((l0.take ((wrap64 ((ji15) + t174)) : Int).toNat).drop ((ji15) : Int).toNat)), wrap64 ((ji15) + t174), 0)) else (none)) else (none)) else (some (0, ([] : List Int), 0, 3))) else (none)) else (none))) = some (r1, r2, r3, r4) := H
                                  have A23 := Aside0.mk A230
                                  clear A230
                                  replace H := Option.bind_eq_some_iff.mp H
                                  obtain ⟨t181, A240, H⟩ := H
                                  replace H : (if (ji19) ≤ (ji15) then (if (ji15) ≤ (l0.length : Int) then (if (strOfNums t181).toList = (strOfNums ((l0.take ((ji15) : Int).toNat).drop ((ji19) : Int).toNat)).toList then (if 0 < (l0.length : Int) then (if ([] : List Int).length + ((l0.take ((wrap64 ((ji15) + t174)) : Int).toNat).drop ((ji15) : Int).toNat).length < 140737488355328 then (some (wrap64 (rd l0 0), (([] : List Int) ++ ((l0.take ((wrap64 ((ji15) + t174)) : Int).toNat).drop ((ji15) : Int).toNat)), wrap64 ((ji15) + t174), 0)) else (none)) else (none)) else (some (0, ([] : List Int), 0, 3))) else (none)) else (none)) = some (r1, r2, r3, r4) := H
                                  have A24 := Aside0.mk A240
                                  clear A240
                                  have c25b0 := eq_true (of_decide_eq_true (by first | (with_reducible assumption) | assumption) : 0 ≤ (ji19))
                                  by_cases c26 : (ji19) ≤ (ji15)
                                  · rw [if_pos c26] at H
                                    have c26b0 := eq_true c26
                                    have c26b1 : decide ((ji19) ≤ (ji15)) = true := decide_eq_true c26
                                    clear c26
                                    by_cases c27 : (ji15) ≤ (l0.length : Int)
                                    · rw [if_pos c27] at H
                                      have c27b0 := eq_true c27
                                      have c27b1 : decide ((ji15) ≤ (l0.length : Int)) = true := decide_eq_true c27
                                      clear c27
                                      by_cases c28 : (strOfNums t181).toList = (strOfNums ((l0.take ((ji15) : Int).toNat).drop ((ji19) : Int).toNat)).toList
                                      · rw [if_pos c28] at H
                                        have c28b0 : ((strOfNums t181).toList == (strOfNums ((l0.take ((ji15) : Int).toNat).drop ((ji19) : Int).toNat)).toList) = true := beq_iff_eq.mpr c28
                                        have c28b1 : ((strOfNums t181).toList != (strOfNums ((l0.take ((ji15) : Int).toNat).drop ((ji19) : Int).toNat)).toList) = false := bne_eq_false_iff_eq.mpr c28
                                        clear c28
                                        by_cases c29 : 0 < (l0.length : Int)
                                        · rw [if_pos c29] at H
                                          have c29b0 : decide (0 < (l0.length : Int)) = true := decide_eq_true c29
                                          have c29b1 : decide (0 < l0.length) = true := decide_eq_true (by omega)
                                          clear c29
                                          by_cases c30 : ([] : List Int).length + ((l0.take ((wrap64 ((ji15) + t174)) : Int).toNat).drop ((ji15) : Int).toNat).length < 140737488355328
                                          · rw [if_pos c30] at H
                                            have LMc30 := Aside0.mk c30
                                            clear c30
                                            obtain ⟨y186, hy186⟩ : ∃ y_ : List Int, y_ = (([] : List Int) ++ ((l0.take ((wrap64 ((ji15) + t174)) : Int).toNat).drop ((ji15) : Int).toNat)) := ⟨_, rfl⟩
                                            replace H : (some (wrap64 (rd l0 0), y186, wrap64 ((ji15) + t174), 0)) = some (r1, r2, r3, r4) := by first | (rw [hy186]; with_reducible exact H) | (have H2_ := (Option.bind_some _ _).symm.trans H; rw [hy186]; with_reducible exact H2_) | (have H2_ := (Option.bind_some _ _).symm.trans H; with_reducible exact H2_) | with_reducible exact H | (rw [hy186]; exact H) | exact H
                                            have Ny186 := Aside0.mk hy186
                                            clear hy186
                                            simp only [Option.some.injEq, Prod.mk.injEq] at H
                                            obtain ⟨rfl, rfl, rfl, rfl⟩ := H
                                            obtain ⟨i031, hi031, _, hsz31, _⟩ := info_parts info5
                                            obtain ⟨A31, hcut31, hA31, hC31⟩ := print_mid_of (P := Try.prog) (Value.int .u8) 0 30 5 .i64 .i64 Try.underlying30 hi031 hsz31 (some ad172) c0 l0 (ji15) (wrap64 ((ji15) + t174)) (of_decide_eq_true (by first | (with_reducible assumption) | assumption)) (by first | omega | exact of_decide_eq_true (by first | (with_reducible assumption) | assumption)) (of_decide_eq_true (by first | (with_reducible assumption) | assumption)) HC0.out
                                            have HR177 := Aside0.mk (Kd.C_of_reads (h1 := fun _ => rfl) (hA31 _ (Kd.reads_of_C HR0.out)))
                                            have HC177 := Aside0.mk hC31
                                            clear hA31 hC31 hi031 hsz31
                                            try go_wp2
                                            have n0_ := Aside0.mk (below_drew1 HB.out)
                                            clear HB
                                            have HB := n0_
                                            clear n0_
                                            obtain ⟨i033, hi033, _, hsz33, _⟩ := info_parts info5
                                            obtain ⟨hcut33, hA33, hC33⟩ := print_take_of (P := Try.prog) (Value.int .u8) 0 30 5 .i64 Try.underlying30 hi033 hsz33 (some ad172) c0 l0 (ji19) (of_decide_eq_true (by first | (with_reducible assumption) | assumption)) (of_decide_eq_true (by first | (with_reducible assumption) | assumption)) HC0.out
                                            have HR178 := Aside0.mk (Kd.C_of_reads (h1 := fun _ => rfl) (hA33 _ (Kd.reads_of_C HR0.out)))
                                            have HC178 := Aside0.mk hC33
                                            clear hA33 hC33 hi033 hsz33
                                            obtain ⟨i034, hi034, _, hsz34, _⟩ := info_parts info5
                                            obtain ⟨A34, hcut34, hA34, hC34⟩ := print_mid_of (P := Try.prog) (Value.int .u8) 0 30 5 .i64 .i64 Try.underlying30 hi034 hsz34 (some ad172) c0 l0 (ji19) (ji15) (of_decide_eq_true (by first | (with_reducible assumption) | assumption)) (by first | omega | exact of_decide_eq_true (by first | (with_reducible assumption) | assumption)) (of_decide_eq_true (by first | (with_reducible assumption) | assumption)) HC0.out
                                            have HR184 := Aside0.mk (Kd.C_of_reads (h1 := fun _ => rfl) (hA34 _ (Kd.reads_of_C HR0.out)))
                                            have HC184 := Aside0.mk hC34
                                            clear hA34 hC34 hi034 hsz34
                                            refine start_ (n := 15) (S := fun w' => (∀ k_, k_ = ((l0.take ((ji15) : Int).toNat).drop ((ji19) : Int).toNat).length → (convert 30 9 (.slice A34 k_ (c0 - (ji19).toNat))).run Try.prog w' = .ok (.string (strOfNums ((l0.take ((ji15) : Int).toNat).drop ((ji19) : Int).toNat))) w')) (ds := []) #[false, false, false, false, false, false, false, false, false, false, false, false, false, false, false] (by kernel_rfl) rfl rfl ((Kd.C_string_as Try.underlying30 Try.underlying5 Try.underlying9 (Kd.C_below HR184.out (by repeat (first | (with_reducible first | exact HB.out | apply below_alloc | apply pw_below_drewN | apply below_drew1) | exact HB.out))))) (fun hHeld => ?_); refine with_tabW frame_Open.tab15 frame_Open.bits15 (fun HT_ HW_ => ?_)
                                            generalize wc.drew = w32 at HB HR178 HR184 hHeld ⊢
                                            refine pure_ (i := 0) (N := some 62) (v := ?_) (a' := ?_) #[true, false, false, false, false, false, false, false, false, false, false, false, false, false, false] rfl rfl (any_of HT_.out (by kernel_rfl)) (fun _ _ _ h => h) (Or.inl ⟨by rfl, ?_⟩) ?_ ?_
                                            rotate_left
                                            · intro w'
                                              go_simp
                                              with_reducible rfl
                                            rotate_left
                                            · simp only [Act.put, List.setIfInBounds_toArray, List.set_cons_zero, List.set_cons_succ, i64_w, i32_w]
                                              rfl
                                            refine pure_ (i := 1) (N := some 63) (v := ?_) (a' := ?_) #[true, true, false, false, false, false, false, false, false, false, false, false, false, false, false] rfl rfl (any_of HT_.out (by kernel_rfl)) (fun _ _ _ h => h) (Or.inl ⟨by rfl, ?_⟩) ?_ ?_
                                            rotate_left
                                            · intro w'
                                              go_simp
                                              with_reducible rfl
                                            rotate_left
                                            · simp only [Act.put, List.setIfInBounds_toArray, List.set_cons_zero, List.set_cons_succ, i64_w, i32_w]
                                              rfl
                                            refine pure_ (i := 2) (N := some 64) (v := ?_) (a' := ?_) #[true, true, true, false, false, false, false, false, false, false, false, false, false, false, false] rfl rfl (any_of HT_.out (by kernel_rfl)) (fun _ _ _ h => h) (Or.inl ⟨by rfl, ?_⟩) ?_ ?_
                                            rotate_left
                                            · intro w'
                                              go_simp
                                              with_reducible rfl
                                            rotate_left
                                            · simp only [Act.put, List.setIfInBounds_toArray, List.set_cons_zero, List.set_cons_succ, i64_w, i32_w]
                                              rfl
                                            refine pure_ (i := 4) (N := some 66) (v := ?_) (a' := ?_) #[true, true, true, false, true, false, false, false, false, false, false, false, false, false, false] rfl rfl (any_of HT_.out (by kernel_rfl)) (fun _ _ _ h => h) (Or.inl ⟨by rfl, ?_⟩) ?_ ?_
                                            rotate_left
                                            · intro w'
                                              go_simp
                                              with_reducible rfl
                                            rotate_left
                                            · simp only [Act.put, List.setIfInBounds_toArray, List.set_cons_zero, List.set_cons_succ, i64_w, i32_w]
                                              rfl
                                            refine pure_ (i := 8) (N := some 70) (v := ?_) (a' := ?_) #[true, true, true, false, true, false, false, false, true, false, false, false, false, false, false] rfl rfl (any_of HT_.out (by kernel_rfl)) (fun _ _ _ h => h) (Or.inl ⟨by rfl, ?_⟩) ?_ ?_
                                            rotate_left
                                            · intro w'
                                              go_simp
                                              with_reducible rfl
                                            rotate_left
                                            · simp only [Act.put, List.setIfInBounds_toArray, List.set_cons_zero, List.set_cons_succ, i64_w, i32_w]
                                              rfl
                                            refine pure_ (i := 9) (N := some 71) (v := ?_) (a' := ?_) #[true, true, true, false, true, false, false, false, true, true, false, false, false, false, false] rfl rfl (any_of HT_.out (by kernel_rfl)) (fun _ _ _ h => h) (Or.inl ⟨by rfl, ?_⟩) ?_ ?_
                                            rotate_left
                                            · intro w'
                                              go_simp
                                              with_reducible rfl
                                            rotate_left
                                            · simp only [Act.put, List.setIfInBounds_toArray, List.set_cons_zero, List.set_cons_succ, i64_w, i32_w]
                                              rfl
                                            refine pure_ (i := 10) (N := some 72) (v := ?_) (a' := ?_) #[true, true, true, false, true, false, false, false, true, true, true, false, false, false, false] rfl rfl (any_of HT_.out (by kernel_rfl)) (fun _ _ _ h => h) (Or.inl ⟨by rfl, ?_⟩) ?_ ?_
                                            rotate_left
                                            · intro w'
                                              go_simp
                                              with_reducible rfl
                                            rotate_left
                                            · simp only [Act.put, List.setIfInBounds_toArray, List.set_cons_zero, List.set_cons_succ, i64_w, i32_w]
                                              rfl
                                            refine pure_ (i := 11) (N := some 73) (v := ?_) (a' := ?_) #[true, true, true, false, true, false, false, false, true, true, true, true, false, false, false] rfl rfl (any_of HT_.out (by kernel_rfl)) (fun _ _ _ h => h) (Or.inl ⟨by rfl, ?_⟩) ?_ ?_
                                            rotate_left
                                            · intro w'
                                              go_simp
                                              with_reducible rfl
                                            rotate_left
                                            · simp only [Act.put, List.setIfInBounds_toArray, List.set_cons_zero, List.set_cons_succ, i64_w, i32_w]
                                              rfl
                                            refine pure_ (i := 12) (N := some 74) (v := ?_) (a' := ?_) #[true, true, true, false, true, false, false, false, true, true, true, true, true, false, false] rfl rfl (any_of HT_.out (by kernel_rfl)) (fun _ _ _ h => h) (Or.inl ⟨by rfl, ?_⟩) ?_ ?_
                                            rotate_left
                                            · intro w'
                                              go_simp
                                              with_reducible rfl
                                            rotate_left
                                            · simp only [Act.put, List.setIfInBounds_toArray, List.set_cons_zero, List.set_cons_succ, i64_w, i32_w]
                                              rfl
                                            refine take_ (i := 13) (N := some 75) (v := ?_) (a' := ?_) #[true, true, true, false, true, false, false, false, true, true, true, true, true, true, false] rfl rfl (take_ofW HT_.out HW_.out (by kernel_rfl)) (fun _ _ _ h => h) (Or.inl ⟨by rfl, ?_⟩) hHeld ?_ ?_
                                            rotate_left
                                            · intro w' s0
                                              go_simp
                                              with_reducible rfl
                                            rotate_left
                                            · simp only [Act.put, List.setIfInBounds_toArray, List.set_cons_zero, List.set_cons_succ, i64_w, i32_w]
                                              rfl
                                            refine one_ (i := 3) (N := some 65) #[true, true, true, true, true, false, false, false, true, true, true, true, true, true, false] rfl rfl (one_of HT_.out (by kernel_rfl)) (by decide) (fun K hK => ?_)
                                            refine goes_ Try.func47 (by kernel_rfl) rfl #[.slice (some ad172) (l0.take ((ji19) : Int).toNat).length c0] (by rfl) rfl rfl (by (try simp only [List.map_toArray, List.map_cons, List.map_nil]); first | done | (rw [show (l0.take ((ji19) : Int).toNat).length = (ji19).toNat from (by rw [List.length_take]; have h_ : ((ji19) : Int) ≤ (l0.length : Int) := of_decide_eq_true (by first | (with_reducible assumption) | assumption); omega)] <;> rfl) | (simp only [hji19]; rfl) | rfl | (simp only [List.length_drop, List.length_take]; rfl)) ?_
                                            with_reducible refine (crc_Sum.calls kj6 _ _ (l0.take ((ji19) : Int).toNat) t179 _ ?side1 ?side2 A22.out).mono ?_
                                            (case side1 => repeat (first | exact (Kd.C_below HR178.out HB.out) | (with_reducible refine Kd.C_alloc ?_ _) | (with_reducible refine Kd.C_drewN ?_ _) | (with_reducible refine Kd.C_drew ?_)))
                                            (case side2 => exact HC178.out)
                                            rintro e w' ⟨rfl, ⟨nd, rfl⟩⟩
                                            refine ⟨_, rfl, ?_⟩
                                            refine hK.out _ _ ((Kd.C_string_as Try.underlying30 Try.underlying5 Try.underlying9 (Kd.C_below HR184.out (by repeat (first | (with_reducible first | exact HB.out | apply below_alloc | apply pw_below_drewN | apply below_drew1) | exact HB.out))))) (fun hHeld => ?_)
                                            clear hK K
                                            refine norm_ (a' := ?_) ?_ ?_
                                            rotate_left
                                            · show Act.put _ (some 65) _ = _
                                              simp only [Act.put, List.setIfInBounds_toArray, List.set_cons_zero, List.set_cons_succ, i64_w, i32_w]
                                              rfl
                                            refine one_ (i := 5) (N := some 67) #[true, true, true, true, true, true, false, false, true, true, true, true, true, true, false] rfl rfl (one_of HT_.out (by kernel_rfl)) (by decide) (fun K hK => ?_)
                                            refine goes_ Try.func46 (by kernel_rfl) rfl #[.int .u32 t179, .slice A31 ((l0.take ((wrap64 ((ji15) + t174)) : Int).toNat).drop ((ji15) : Int).toNat).length (c0 - (ji15).toNat)] (by rfl) rfl rfl (by (try simp only [List.map_toArray, List.map_cons, List.map_nil]); first | done | (rw [show ((l0.take ((wrap64 ((ji15) + t174)) : Int).toNat).drop ((ji15) : Int).toNat).length = ((wrap64 ((ji15) + t174)).toNat - (ji15).toNat) from (by rw [List.length_drop, List.length_take]; have h_ : ((wrap64 ((ji15) + t174)) : Int) ≤ (l0.length : Int) := of_decide_eq_true (by first | (with_reducible assumption) | assumption); omega)] <;> rfl) | (simp only [hji15]; rfl) | rfl | (simp only [List.length_drop, List.length_take]; rfl)) ?_
                                            with_reducible refine (crc_More.calls kj6 t179 _ _ ((l0.take ((wrap64 ((ji15) + t174)) : Int).toNat).drop ((ji15) : Int).toNat) t180 _ ?side1 ?side2 A23.out).mono ?_
                                            (case side1 => repeat (first | exact (Kd.C_below HR177.out (by repeat (first | (with_reducible first | exact HB.out | apply below_alloc | apply pw_below_drewN | apply below_drew1) | exact HB.out))) | (with_reducible refine Kd.C_alloc ?_ _) | (with_reducible refine Kd.C_drewN ?_ _) | (with_reducible refine Kd.C_drew ?_)))
                                            (case side2 => exact HC177.out)
                                            rintro e w' ⟨rfl, ⟨nd, rfl⟩⟩
                                            refine ⟨_, rfl, ?_⟩
                                            refine hK.out _ _ ((Kd.C_string_as Try.underlying30 Try.underlying5 Try.underlying9 (Kd.C_below HR184.out (by repeat (first | (with_reducible first | exact HB.out | apply below_alloc | apply pw_below_drewN | apply below_drew1) | exact HB.out))))) (fun hHeld => ?_)
                                            clear hK K
                                            refine norm_ (a' := ?_) ?_ ?_
                                            rotate_left
                                            · show Act.put _ (some 67) _ = _
                                              simp only [Act.put, List.setIfInBounds_toArray, List.set_cons_zero, List.set_cons_succ, i64_w, i32_w]
                                              rfl
                                            refine one_ (i := 6) (N := some 68) #[true, true, true, true, true, true, true, false, true, true, true, true, true, true, false] rfl rfl (one_of HT_.out (by kernel_rfl)) (by decide) (fun K hK => ?_)
                                            refine goes_ Try.func48 (by kernel_rfl) rfl #[.int .u32 t180] (by rfl) rfl rfl (by (try simp only [List.map_toArray, List.map_cons, List.map_nil]); first | done | rfl | (simp only [List.length_drop, List.length_take]; rfl)) ?_
                                            with_reducible refine (num_Four.calls t180 t181 _ A24.out).mono ?_
                                            rintro e w36 ⟨v182, rfl, ho0, hb⟩
                                            refine ⟨_, rfl, ?_⟩
                                            have n0_ := Aside0.mk (Kd.R_lower ho0 (below_size (by repeat (first | (with_reducible first | exact HB.out | apply below_alloc | apply pw_below_drewN | apply below_drew1) | exact HB.out))))
                                            have n1_ := Aside0.mk (below_step (by repeat (first | (with_reducible first | exact HB.out | apply below_alloc | apply pw_below_drewN | apply below_drew1) | exact HB.out)) hb)
                                            clear HB
                                            have HO183 := n0_
                                            have HB := n1_
                                            clear n0_ n1_
                                            (try clear hb)
                                            (try clear hb2)
                                            (try clear hk)
                                            (try clear hi)
                                            (try clear ho0)
                                            refine hK.out _ _ ((Kd.C_string_as Try.underlying30 Try.underlying5 Try.underlying9 (Kd.C_below HR184.out (by repeat (first | (with_reducible first | exact HB.out | apply below_alloc | apply pw_below_drewN | apply below_drew1) | exact HB.out))))) (fun hHeld => ?_)
                                            clear hK K
                                            refine norm_ (a' := ?_) ?_ ?_
                                            rotate_left
                                            · show Act.put _ (some 68) _ = _
                                              simp only [Act.put, List.setIfInBounds_toArray, List.set_cons_zero, List.set_cons_succ, i64_w, i32_w]
                                              rfl
                                            refine one_ (i := 7) (N := some 69) #[true, true, true, true, true, true, true, true, true, true, true, true, true, true, false] rfl rfl (one_of HT_.out (by kernel_rfl)) (by decide) (fun K hK => ?_)
                                            have hcv37 := own_string (P := Try.prog) Try.underlying30 Try.underlying5 Try.underlying9 (Kd.own_of_R HO183.out)
                                            refine value_ (w1 := ?_) (v := ?_) (by rfl) rfl ?_ ?_
                                            rotate_left 2
                                            · go_simp
                                              constructor
                                              · rfl
                                              · rfl
                                            clear hcv37
                                            refine hK.out _ _ ((Kd.C_string_as Try.underlying30 Try.underlying5 Try.underlying9 (Kd.C_below HR184.out (by repeat (first | (with_reducible first | exact HB.out | apply below_alloc | apply pw_below_drewN | apply below_drew1) | exact HB.out))))) (fun hHeld => ?_)
                                            clear hK K
                                            refine norm_ (a' := ?_) ?_ ?_
                                            rotate_left
                                            · show Act.put _ (some 69) _ = _
                                              simp only [Act.put, List.setIfInBounds_toArray, List.set_cons_zero, List.set_cons_succ, i64_w, i32_w]
                                              rfl
                                            refine pure_ (i := 14) (N := some 76) (v := ?_) (a' := ?_) #[true, true, true, true, true, true, true, true, true, true, true, true, true, true, true] rfl rfl (any_of HT_.out (by kernel_rfl)) (fun _ _ _ h => h) (Or.inl ⟨by rfl, ?_⟩) ?_ ?_
                                            rotate_left
                                            · intro w'
                                              go_simp
                                              with_reducible rfl
                                            rotate_left
                                            · simp only [Act.put, List.setIfInBounds_toArray, List.set_cons_zero, List.set_cons_succ, i64_w, i32_w]
                                              rfl
                                            refine done_ (done_of HT_.out (by kernel_rfl)) ?_
                                            try go_wp2
                                            have n0_ := Aside0.mk (Kd.R_drew HO183.out)
                                            have n1_ := Aside0.mk (below_drew1 HB.out)
                                            clear HO183
                                            clear HB
                                            have HO183 := n0_
                                            have HB := n1_
                                            clear n0_ n1_
                                            have p185 : 0 ≤ (0 : Int) := (by omega)
                                            have q185 : 0 < (l0.length : Int) := of_decide_eq_true (by first | (with_reducible assumption) | assumption)
                                            obtain ⟨ad185, e185, hx185_0⟩ := Kd.at_int HR0.out 0 p185 q185
                                            have hw185_0 := hx185_0
                                            (try rw [show ((0 : Int)).toNat = 0 from rfl] at hw185_0)
                                            (try rw [show 0 * 1 = 0 from rfl] at hw185_0)
                                            (try rw [Addr.add_zero'] at hw185_0)
                                            obtain rfl : ad172 = ad185 := (by injection e185)
                                            have qi185 : (0 < l0.length) = True := eq_true (by omega)
                                            (try rw [show ((0 : Int)).toNat = 0 from rfl] at hx185_0)
                                            (try rw [Addr.add_zero'] at hx185_0)
                                            replace hx185_0 := (HB.out.cell (World.block_lt_of_cell? w _ hx185_0)).trans hx185_0
                                            replace p185 := eq_true p185
                                            replace q185 := eq_true q185
                                            refine start_ (n := 11) (S := fun w' => w'.cell? ad172 = some (.int .u8 (rd l0 0))) (ds := []) #[false, false, false, false, false, false, false, false, false, false, false] (by kernel_rfl) rfl rfl (((HB.out.cell (World.block_lt_of_cell? w _ hw185_0)).trans hw185_0)) (fun hHeld => ?_); refine with_tabW frame_Open.tab17 frame_Open.bits17 (fun HT_ HW_ => ?_)
                                            generalize w36.drew = w38 at HO183 HB hx185_0 hHeld ⊢
                                            refine pure_ (i := 0) (N := some 77) (v := ?_) (a' := ?_) #[true, false, false, false, false, false, false, false, false, false, false] rfl rfl (any_of HT_.out (by kernel_rfl)) (fun _ _ _ h => h) (Or.inl ⟨by rfl, ?_⟩) ?_ ?_
                                            rotate_left
                                            · intro w'
                                              go_simp
                                              with_reducible rfl
                                            rotate_left
                                            · simp only [Act.put, List.setIfInBounds_toArray, List.set_cons_zero, List.set_cons_succ, i64_w, i32_w]
                                              rfl
                                            refine pure_ (i := 1) (N := some 78) (v := ?_) (a' := ?_) #[true, true, false, false, false, false, false, false, false, false, false] rfl rfl (any_of HT_.out (by kernel_rfl)) (fun _ _ _ h => h) (Or.inl ⟨by rfl, ?_⟩) ?_ ?_
                                            rotate_left
                                            · intro w'
                                              go_simp
                                              with_reducible rfl
                                            rotate_left
                                            · simp only [Act.put, List.setIfInBounds_toArray, List.set_cons_zero, List.set_cons_succ, i64_w, i32_w]
                                              rfl
                                            refine pure_ (i := 4) (N := some 81) (v := ?_) (a' := ?_) #[true, true, false, false, true, false, false, false, false, false, false] rfl rfl (any_of HT_.out (by kernel_rfl)) (fun _ _ _ h => h) (Or.inl ⟨by rfl, ?_⟩) ?_ ?_
                                            rotate_left
                                            · intro w'
                                              go_simp
                                              with_reducible rfl
                                            rotate_left
                                            · simp only [Act.put, List.setIfInBounds_toArray, List.set_cons_zero, List.set_cons_succ, i64_w, i32_w]
                                              rfl
                                            refine pure_ (i := 6) (N := some 83) (v := ?_) (a' := ?_) #[true, true, false, false, true, false, true, false, false, false, false] rfl rfl (any_of HT_.out (by kernel_rfl)) (fun _ _ _ h => h) (Or.inl ⟨by rfl, ?_⟩) ?_ ?_
                                            rotate_left
                                            · intro w'
                                              go_simp
                                              with_reducible rfl
                                            rotate_left
                                            · simp only [Act.put, List.setIfInBounds_toArray, List.set_cons_zero, List.set_cons_succ, i64_w, i32_w]
                                              rfl
                                            refine take_ (i := 2) (N := some 79) (v := ?_) (a' := ?_) #[true, true, true, false, true, false, true, false, false, false, false] rfl rfl (take_ofW HT_.out HW_.out (by kernel_rfl)) (fun _ _ _ h => h) (Or.inl ⟨by rfl, ?_⟩) hHeld ?_ ?_
                                            rotate_left
                                            · intro w' s0
                                              go_simp
                                              with_reducible rfl
                                            rotate_left
                                            · simp only [Act.put, List.setIfInBounds_toArray, List.set_cons_zero, List.set_cons_succ, i64_w, i32_w]
                                              rfl
                                            refine pure_ (i := 3) (N := some 80) (v := ?_) (a' := ?_) #[true, true, true, true, true, false, true, false, false, false, false] rfl rfl (any_of HT_.out (by kernel_rfl)) (fun _ _ _ h => h) (Or.inl ⟨by rfl, ?_⟩) ?_ ?_
                                            rotate_left
                                            · intro w'
                                              go_simp
                                              with_reducible rfl
                                            rotate_left
                                            · simp only [Act.put, List.setIfInBounds_toArray, List.set_cons_zero, List.set_cons_succ, i64_w, i32_w]
                                              rfl
                                            refine one_ (i := 5) (N := some 82) #[true, true, true, true, true, true, true, false, false, false, false] rfl rfl (one_of HT_.out (by kernel_rfl)) (by decide) (fun K hK => ?_)
                                            refine Kd.R_append_rows_step (Kd.int .u8) (w0 := w) w.heap.size (by rfl) (.const (.slice none 0 0)) (.tmp 81) 30 5 (.int .u8 0) 1 rfl Try.underlying30 info5 rfl (by decide) (by omega) (.slice none 0 0) ([] : List Int) ((l0.take ((wrap64 ((ji15) + t174)) : Int).toNat).drop ((ji15) : Int).toNat) _ _ _ (fun k_ => some k_ ≠ (v182 : Value).ownBlock) (fun _ => False) rfl rfl ?aO ?aR (fun _ _ h => h) (fun _ h => h.elim) ?aF ?aB ?aS ?aL ?_
                                            (case aR => first | (rw [← show ((l0.take ((wrap64 ((ji15) + t174)) : Int).toNat).drop ((ji15) : Int).toNat).length = ((wrap64 ((ji15) + t174)).toNat - (ji15).toNat) from (by rw [List.length_drop, List.length_take]; have h_ : ((wrap64 ((ji15) + t174)) : Int) ≤ (l0.length : Int) := of_decide_eq_true (by first | (with_reducible assumption) | assumption); omega)]; repeat (first | exact (Kd.C_below HR177.out HB.out) | (with_reducible refine Kd.C_alloc ?_ _) | (with_reducible refine Kd.C_drewN ?_ _) | (with_reducible refine Kd.C_drew ?_))) | (repeat (first | exact (Kd.C_below HR177.out HB.out) | (with_reducible refine Kd.C_alloc ?_ _) | (with_reducible refine Kd.C_drewN ?_ _) | (with_reducible refine Kd.C_drew ?_))))
                                            (case aB => exact (by repeat (first | (with_reducible first | exact HB.out | apply below_alloc | apply pw_below_drewN | apply below_drew1) | exact HB.out)))
                                            (case aF => exact (fun k_ hk => Kd.fresh' (Kd.R_lt (by (with_reducible repeat (first | apply Kd.R_alloc | apply Kd.R_drewN | apply Kd.R_drew)); first | exact HO183.out | exact Kd.R_mono HO183.out (fun _ h_ => by simp only [Kd.own_len] at h_ ⊢; exact h_))) k_ hk))
                                            (case aO => exact ((Kd.R_nil _ _ _ _ (fun k_ => some k_ ≠ (v182 : Value).ownBlock))))
                                            (case aS => exact (below_size (by repeat (first | (with_reducible first | exact HB.out | apply below_alloc | apply pw_below_drewN | apply below_drew1) | exact HB.out))))
                                            (case aL => have := LMc30.out; have hlx_ := (show ((l0.take ((wrap64 ((ji15) + t174)) : Int).toNat).drop ((ji15) : Int).toNat).length = ((wrap64 ((ji15) + t174)).toNat - (ji15).toNat) from (by rw [List.length_drop, List.length_take]; have h_ : ((wrap64 ((ji15) + t174)) : Int) ≤ (l0.length : Int) := of_decide_eq_true (by first | (with_reducible assumption) | assumption); omega)); omega)
                                            intro v187 w39 ho hb hg hat
                                            rw [← Ny186.out] at ho
                                            have n0_ := Aside0.mk (Kd.R_after (Kd.R_apart_nil (by (with_reducible repeat (first | apply Kd.R_alloc | apply Kd.R_drewN | apply Kd.R_drew)); first | exact HO183.out | exact Kd.R_mono HO183.out (fun _ h_ => by simp only [Kd.own_len] at h_ ⊢; exact h_))) hg hat)
                                            have n1_ := Aside0.mk (hb)
                                            have n2_ := Aside0.mk (ho)
                                            clear HO183
                                            clear HB
                                            have HO183 := n0_
                                            have HB := n1_
                                            have HO188 := n2_
                                            clear n0_ n1_ n2_
                                            clear ho hb hg hat
                                            refine hK.out _ _ (((HB.out.cell (World.block_lt_of_cell? w _ hw185_0)).trans hw185_0)) (fun hHeld => ?_)
                                            clear hK K
                                            refine norm_ (a' := ?_) ?_ ?_
                                            rotate_left
                                            · show Act.put _ (some 82) _ = _
                                              simp only [Act.put, List.setIfInBounds_toArray, List.set_cons_zero, List.set_cons_succ, i64_w, i32_w]
                                              rfl
                                            refine pure_ (i := 7) (N := some 2) (v := ?_) (a' := ?_) #[true, true, true, true, true, true, true, true, false, false, false] rfl rfl (any_of HT_.out (by kernel_rfl)) (fun _ _ _ h => h) (Or.inl ⟨by rfl, ?_⟩) ?_ ?_
                                            rotate_left
                                            · intro w'
                                              go_simp
                                              with_reducible rfl
                                            rotate_left
                                            · simp only [Act.put, List.setIfInBounds_toArray, List.set_cons_zero, List.set_cons_succ, i64_w, i32_w]
                                              rfl
                                            refine pure_ (i := 8) (N := some 3) (v := ?_) (a' := ?_) #[true, true, true, true, true, true, true, true, true, false, false] rfl rfl (any_of HT_.out (by kernel_rfl)) (fun _ _ _ h => h) (Or.inl ⟨by rfl, ?_⟩) ?_ ?_
                                            rotate_left
                                            · intro w'
                                              go_simp
                                              with_reducible rfl
                                            rotate_left
                                            · simp only [Act.put, List.setIfInBounds_toArray, List.set_cons_zero, List.set_cons_succ, i64_w, i32_w]
                                              rfl
                                            refine pure_ (i := 9) (N := some 4) (v := ?_) (a' := ?_) #[true, true, true, true, true, true, true, true, true, true, false] rfl rfl (any_of HT_.out (by kernel_rfl)) (fun _ _ _ h => h) (Or.inl ⟨by rfl, ?_⟩) ?_ ?_
                                            rotate_left
                                            · intro w'
                                              go_simp
                                              with_reducible rfl
                                            rotate_left
                                            · simp only [Act.put, List.setIfInBounds_toArray, List.set_cons_zero, List.set_cons_succ, i64_w, i32_w]
                                              rfl
                                            refine pure_ (i := 10) (N := some 5) (v := ?_) (a' := ?_) #[true, true, true, true, true, true, true, true, true, true, true] rfl rfl (any_of HT_.out (by kernel_rfl)) (fun _ _ _ h => h) (Or.inl ⟨by rfl, ?_⟩) ?_ ?_
                                            rotate_left
                                            · intro w'
                                              go_simp
                                              with_reducible rfl
                                            rotate_left
                                            · simp only [Act.put, List.setIfInBounds_toArray, List.set_cons_zero, List.set_cons_succ, i64_w, i32_w]
                                              rfl
                                            refine done_ (done_of HT_.out (by kernel_rfl)) ?_
                                            try go_wp2
                                            refine bodyPost_ret (results_list (rs := [.tmp 2, .tmp 3, .tmp 4, .tmp 5]) rfl (by simp) (.tmp (.tmp (.tmp (.tmp .nil))))) rfl ?_
                                            exact ⟨_, by first | rfl | (simp [errW_none, errW_some] <;> rfl) | (simp only [← hji15, ← hji19]; first | rfl | (simp [errW_none, errW_some] <;> rfl)) | (simp [*, errW_none, errW_some] <;> rfl), by (with_reducible repeat (first | apply Kd.R_alloc | apply Kd.R_drewN | apply Kd.R_drew)); first | exact Kd.R_mono HO188.out (fun _ hk => trivial) | exact Kd.R_mono (Kd.R_mono HO188.out (fun _ hk => trivial)) (fun _ h_ => by simp only [Kd.own_len] at h_ ⊢; exact h_), by repeat (first | (with_reducible first | exact HB.out | apply below_alloc | apply pw_below_drewN | apply below_drew1) | exact HB.out)⟩
                                          · rw [if_neg c30] at H
                                            exact absurd H (by simp)
                                        · rw [if_neg c29] at H
                                          exact absurd H (by simp)
                                      · rw [if_neg c28] at H
                                        have c28b0 : ((strOfNums t181).toList == (strOfNums ((l0.take ((ji15) : Int).toNat).drop ((ji19) : Int).toNat)).toList) = false := beq_eq_false_iff_ne.mpr c28
                                        have c28b1 : ((strOfNums t181).toList != (strOfNums ((l0.take ((ji15) : Int).toNat).drop ((ji19) : Int).toNat)).toList) = true := bne_iff_ne.mpr c28
                                        simp only [Option.some.injEq, Prod.mk.injEq] at H
                                        obtain ⟨rfl, rfl, rfl, rfl⟩ := H
                                        obtain ⟨i040, hi040, _, hsz40, _⟩ := info_parts info5
                                        obtain ⟨A40, hcut40, hA40, hC40⟩ := print_mid_of (P := Try.prog) (Value.int .u8) 0 30 5 .i64 .i64 Try.underlying30 hi040 hsz40 (some ad172) c0 l0 (ji15) (wrap64 ((ji15) + t174)) (of_decide_eq_true (by first | (with_reducible assumption) | assumption)) (by first | omega | exact of_decide_eq_true (by first | (with_reducible assumption) | assumption)) (of_decide_eq_true (by first | (with_reducible assumption) | assumption)) HC0.out
                                        have HR177 := Aside0.mk (Kd.C_of_reads (h1 := fun _ => rfl) (hA40 _ (Kd.reads_of_C HR0.out)))
                                        have HC177 := Aside0.mk hC40
                                        clear hA40 hC40 hi040 hsz40
                                        try go_wp2
                                        have n0_ := Aside0.mk (below_drew1 HB.out)
                                        clear HB
                                        have HB := n0_
                                        clear n0_
                                        obtain ⟨i042, hi042, _, hsz42, _⟩ := info_parts info5
                                        obtain ⟨hcut42, hA42, hC42⟩ := print_take_of (P := Try.prog) (Value.int .u8) 0 30 5 .i64 Try.underlying30 hi042 hsz42 (some ad172) c0 l0 (ji19) (of_decide_eq_true (by first | (with_reducible assumption) | assumption)) (of_decide_eq_true (by first | (with_reducible assumption) | assumption)) HC0.out
                                        have HR178 := Aside0.mk (Kd.C_of_reads (h1 := fun _ => rfl) (hA42 _ (Kd.reads_of_C HR0.out)))
                                        have HC178 := Aside0.mk hC42
                                        clear hA42 hC42 hi042 hsz42
                                        obtain ⟨i043, hi043, _, hsz43, _⟩ := info_parts info5
                                        obtain ⟨A43, hcut43, hA43, hC43⟩ := print_mid_of (P := Try.prog) (Value.int .u8) 0 30 5 .i64 .i64 Try.underlying30 hi043 hsz43 (some ad172) c0 l0 (ji19) (ji15) (of_decide_eq_true (by first | (with_reducible assumption) | assumption)) (by first | omega | exact of_decide_eq_true (by first | (with_reducible assumption) | assumption)) (of_decide_eq_true (by first | (with_reducible assumption) | assumption)) HC0.out
                                        have HR184 := Aside0.mk (Kd.C_of_reads (h1 := fun _ => rfl) (hA43 _ (Kd.reads_of_C HR0.out)))
                                        have HC184 := Aside0.mk hC43
                                        clear hA43 hC43 hi043 hsz43
                                        refine start_ (n := 15) (S := fun w' => (∀ k_, k_ = ((l0.take ((ji15) : Int).toNat).drop ((ji19) : Int).toNat).length → (convert 30 9 (.slice A43 k_ (c0 - (ji19).toNat))).run Try.prog w' = .ok (.string (strOfNums ((l0.take ((ji15) : Int).toNat).drop ((ji19) : Int).toNat))) w')) (ds := []) #[false, false, false, false, false, false, false, false, false, false, false, false, false, false, false] (by kernel_rfl) rfl rfl ((Kd.C_string_as Try.underlying30 Try.underlying5 Try.underlying9 (Kd.C_below HR184.out (by repeat (first | (with_reducible first | exact HB.out | apply below_alloc | apply pw_below_drewN | apply below_drew1) | exact HB.out))))) (fun hHeld => ?_); refine with_tabW frame_Open.tab15 frame_Open.bits15 (fun HT_ HW_ => ?_)
                                        generalize wc.drew = w41 at HB HR178 HR184 hHeld ⊢
                                        refine pure_ (i := 0) (N := some 62) (v := ?_) (a' := ?_) #[true, false, false, false, false, false, false, false, false, false, false, false, false, false, false] rfl rfl (any_of HT_.out (by kernel_rfl)) (fun _ _ _ h => h) (Or.inl ⟨by rfl, ?_⟩) ?_ ?_
                                        rotate_left
                                        · intro w'
                                          go_simp
                                          with_reducible rfl
                                        rotate_left
                                        · simp only [Act.put, List.setIfInBounds_toArray, List.set_cons_zero, List.set_cons_succ, i64_w, i32_w]
                                          rfl
                                        refine pure_ (i := 1) (N := some 63) (v := ?_) (a' := ?_) #[true, true, false, false, false, false, false, false, false, false, false, false, false, false, false] rfl rfl (any_of HT_.out (by kernel_rfl)) (fun _ _ _ h => h) (Or.inl ⟨by rfl, ?_⟩) ?_ ?_
                                        rotate_left
                                        · intro w'
                                          go_simp
                                          with_reducible rfl
                                        rotate_left
                                        · simp only [Act.put, List.setIfInBounds_toArray, List.set_cons_zero, List.set_cons_succ, i64_w, i32_w]
                                          rfl
                                        refine pure_ (i := 2) (N := some 64) (v := ?_) (a' := ?_) #[true, true, true, false, false, false, false, false, false, false, false, false, false, false, false] rfl rfl (any_of HT_.out (by kernel_rfl)) (fun _ _ _ h => h) (Or.inl ⟨by rfl, ?_⟩) ?_ ?_
                                        rotate_left
                                        · intro w'
                                          go_simp
                                          with_reducible rfl
                                        rotate_left
                                        · simp only [Act.put, List.setIfInBounds_toArray, List.set_cons_zero, List.set_cons_succ, i64_w, i32_w]
                                          rfl
                                        refine pure_ (i := 4) (N := some 66) (v := ?_) (a' := ?_) #[true, true, true, false, true, false, false, false, false, false, false, false, false, false, false] rfl rfl (any_of HT_.out (by kernel_rfl)) (fun _ _ _ h => h) (Or.inl ⟨by rfl, ?_⟩) ?_ ?_
                                        rotate_left
                                        · intro w'
                                          go_simp
                                          with_reducible rfl
                                        rotate_left
                                        · simp only [Act.put, List.setIfInBounds_toArray, List.set_cons_zero, List.set_cons_succ, i64_w, i32_w]
                                          rfl
                                        refine pure_ (i := 8) (N := some 70) (v := ?_) (a' := ?_) #[true, true, true, false, true, false, false, false, true, false, false, false, false, false, false] rfl rfl (any_of HT_.out (by kernel_rfl)) (fun _ _ _ h => h) (Or.inl ⟨by rfl, ?_⟩) ?_ ?_
                                        rotate_left
                                        · intro w'
                                          go_simp
                                          with_reducible rfl
                                        rotate_left
                                        · simp only [Act.put, List.setIfInBounds_toArray, List.set_cons_zero, List.set_cons_succ, i64_w, i32_w]
                                          rfl
                                        refine pure_ (i := 9) (N := some 71) (v := ?_) (a' := ?_) #[true, true, true, false, true, false, false, false, true, true, false, false, false, false, false] rfl rfl (any_of HT_.out (by kernel_rfl)) (fun _ _ _ h => h) (Or.inl ⟨by rfl, ?_⟩) ?_ ?_
                                        rotate_left
                                        · intro w'
                                          go_simp
                                          with_reducible rfl
                                        rotate_left
                                        · simp only [Act.put, List.setIfInBounds_toArray, List.set_cons_zero, List.set_cons_succ, i64_w, i32_w]
                                          rfl
                                        refine pure_ (i := 10) (N := some 72) (v := ?_) (a' := ?_) #[true, true, true, false, true, false, false, false, true, true, true, false, false, false, false] rfl rfl (any_of HT_.out (by kernel_rfl)) (fun _ _ _ h => h) (Or.inl ⟨by rfl, ?_⟩) ?_ ?_
                                        rotate_left
                                        · intro w'
                                          go_simp
                                          with_reducible rfl
                                        rotate_left
                                        · simp only [Act.put, List.setIfInBounds_toArray, List.set_cons_zero, List.set_cons_succ, i64_w, i32_w]
                                          rfl
                                        refine pure_ (i := 11) (N := some 73) (v := ?_) (a' := ?_) #[true, true, true, false, true, false, false, false, true, true, true, true, false, false, false] rfl rfl (any_of HT_.out (by kernel_rfl)) (fun _ _ _ h => h) (Or.inl ⟨by rfl, ?_⟩) ?_ ?_
                                        rotate_left
                                        · intro w'
                                          go_simp
                                          with_reducible rfl
                                        rotate_left
                                        · simp only [Act.put, List.setIfInBounds_toArray, List.set_cons_zero, List.set_cons_succ, i64_w, i32_w]
                                          rfl
                                        refine pure_ (i := 12) (N := some 74) (v := ?_) (a' := ?_) #[true, true, true, false, true, false, false, false, true, true, true, true, true, false, false] rfl rfl (any_of HT_.out (by kernel_rfl)) (fun _ _ _ h => h) (Or.inl ⟨by rfl, ?_⟩) ?_ ?_
                                        rotate_left
                                        · intro w'
                                          go_simp
                                          with_reducible rfl
                                        rotate_left
                                        · simp only [Act.put, List.setIfInBounds_toArray, List.set_cons_zero, List.set_cons_succ, i64_w, i32_w]
                                          rfl
                                        refine take_ (i := 13) (N := some 75) (v := ?_) (a' := ?_) #[true, true, true, false, true, false, false, false, true, true, true, true, true, true, false] rfl rfl (take_ofW HT_.out HW_.out (by kernel_rfl)) (fun _ _ _ h => h) (Or.inl ⟨by rfl, ?_⟩) hHeld ?_ ?_
                                        rotate_left
                                        · intro w' s0
                                          go_simp
                                          with_reducible rfl
                                        rotate_left
                                        · simp only [Act.put, List.setIfInBounds_toArray, List.set_cons_zero, List.set_cons_succ, i64_w, i32_w]
                                          rfl
                                        refine one_ (i := 3) (N := some 65) #[true, true, true, true, true, false, false, false, true, true, true, true, true, true, false] rfl rfl (one_of HT_.out (by kernel_rfl)) (by decide) (fun K hK => ?_)
                                        refine goes_ Try.func47 (by kernel_rfl) rfl #[.slice (some ad172) (l0.take ((ji19) : Int).toNat).length c0] (by rfl) rfl rfl (by (try simp only [List.map_toArray, List.map_cons, List.map_nil]); first | done | (rw [show (l0.take ((ji19) : Int).toNat).length = (ji19).toNat from (by rw [List.length_take]; have h_ : ((ji19) : Int) ≤ (l0.length : Int) := of_decide_eq_true (by first | (with_reducible assumption) | assumption); omega)] <;> rfl) | (simp only [hji19]; rfl) | rfl | (simp only [List.length_drop, List.length_take]; rfl)) ?_
                                        with_reducible refine (crc_Sum.calls kj6 _ _ (l0.take ((ji19) : Int).toNat) t179 _ ?side1 ?side2 A22.out).mono ?_
                                        (case side1 => repeat (first | exact (Kd.C_below HR178.out HB.out) | (with_reducible refine Kd.C_alloc ?_ _) | (with_reducible refine Kd.C_drewN ?_ _) | (with_reducible refine Kd.C_drew ?_)))
                                        (case side2 => exact HC178.out)
                                        rintro e w' ⟨rfl, ⟨nd, rfl⟩⟩
                                        refine ⟨_, rfl, ?_⟩
                                        refine hK.out _ _ ((Kd.C_string_as Try.underlying30 Try.underlying5 Try.underlying9 (Kd.C_below HR184.out (by repeat (first | (with_reducible first | exact HB.out | apply below_alloc | apply pw_below_drewN | apply below_drew1) | exact HB.out))))) (fun hHeld => ?_)
                                        clear hK K
                                        refine norm_ (a' := ?_) ?_ ?_
                                        rotate_left
                                        · show Act.put _ (some 65) _ = _
                                          simp only [Act.put, List.setIfInBounds_toArray, List.set_cons_zero, List.set_cons_succ, i64_w, i32_w]
                                          rfl
                                        refine one_ (i := 5) (N := some 67) #[true, true, true, true, true, true, false, false, true, true, true, true, true, true, false] rfl rfl (one_of HT_.out (by kernel_rfl)) (by decide) (fun K hK => ?_)
                                        refine goes_ Try.func46 (by kernel_rfl) rfl #[.int .u32 t179, .slice A40 ((l0.take ((wrap64 ((ji15) + t174)) : Int).toNat).drop ((ji15) : Int).toNat).length (c0 - (ji15).toNat)] (by rfl) rfl rfl (by (try simp only [List.map_toArray, List.map_cons, List.map_nil]); first | done | (rw [show ((l0.take ((wrap64 ((ji15) + t174)) : Int).toNat).drop ((ji15) : Int).toNat).length = ((wrap64 ((ji15) + t174)).toNat - (ji15).toNat) from (by rw [List.length_drop, List.length_take]; have h_ : ((wrap64 ((ji15) + t174)) : Int) ≤ (l0.length : Int) := of_decide_eq_true (by first | (with_reducible assumption) | assumption); omega)] <;> rfl) | (simp only [hji15]; rfl) | rfl | (simp only [List.length_drop, List.length_take]; rfl)) ?_
                                        with_reducible refine (crc_More.calls kj6 t179 _ _ ((l0.take ((wrap64 ((ji15) + t174)) : Int).toNat).drop ((ji15) : Int).toNat) t180 _ ?side1 ?side2 A23.out).mono ?_
                                        (case side1 => repeat (first | exact (Kd.C_below HR177.out (by repeat (first | (with_reducible first | exact HB.out | apply below_alloc | apply pw_below_drewN | apply below_drew1) | exact HB.out))) | (with_reducible refine Kd.C_alloc ?_ _) | (with_reducible refine Kd.C_drewN ?_ _) | (with_reducible refine Kd.C_drew ?_)))
                                        (case side2 => exact HC177.out)
                                        rintro e w' ⟨rfl, ⟨nd, rfl⟩⟩
                                        refine ⟨_, rfl, ?_⟩
                                        refine hK.out _ _ ((Kd.C_string_as Try.underlying30 Try.underlying5 Try.underlying9 (Kd.C_below HR184.out (by repeat (first | (with_reducible first | exact HB.out | apply below_alloc | apply pw_below_drewN | apply below_drew1) | exact HB.out))))) (fun hHeld => ?_)
                                        clear hK K
                                        refine norm_ (a' := ?_) ?_ ?_
                                        rotate_left
                                        · show Act.put _ (some 67) _ = _
                                          simp only [Act.put, List.setIfInBounds_toArray, List.set_cons_zero, List.set_cons_succ, i64_w, i32_w]
                                          rfl
                                        refine one_ (i := 6) (N := some 68) #[true, true, true, true, true, true, true, false, true, true, true, true, true, true, false] rfl rfl (one_of HT_.out (by kernel_rfl)) (by decide) (fun K hK => ?_)
                                        refine goes_ Try.func48 (by kernel_rfl) rfl #[.int .u32 t180] (by rfl) rfl rfl (by (try simp only [List.map_toArray, List.map_cons, List.map_nil]); first | done | rfl | (simp only [List.length_drop, List.length_take]; rfl)) ?_
                                        with_reducible refine (num_Four.calls t180 t181 _ A24.out).mono ?_
                                        rintro e w45 ⟨v182, rfl, ho0, hb⟩
                                        refine ⟨_, rfl, ?_⟩
                                        have n0_ := Aside0.mk (Kd.R_lower ho0 (below_size (by repeat (first | (with_reducible first | exact HB.out | apply below_alloc | apply pw_below_drewN | apply below_drew1) | exact HB.out))))
                                        have n1_ := Aside0.mk (below_step (by repeat (first | (with_reducible first | exact HB.out | apply below_alloc | apply pw_below_drewN | apply below_drew1) | exact HB.out)) hb)
                                        clear HB
                                        have HO183 := n0_
                                        have HB := n1_
                                        clear n0_ n1_
                                        (try clear hb)
                                        (try clear hb2)
                                        (try clear hk)
                                        (try clear hi)
                                        (try clear ho0)
                                        refine hK.out _ _ ((Kd.C_string_as Try.underlying30 Try.underlying5 Try.underlying9 (Kd.C_below HR184.out (by repeat (first | (with_reducible first | exact HB.out | apply below_alloc | apply pw_below_drewN | apply below_drew1) | exact HB.out))))) (fun hHeld => ?_)
                                        clear hK K
                                        refine norm_ (a' := ?_) ?_ ?_
                                        rotate_left
                                        · show Act.put _ (some 68) _ = _
                                          simp only [Act.put, List.setIfInBounds_toArray, List.set_cons_zero, List.set_cons_succ, i64_w, i32_w]
                                          rfl
                                        refine one_ (i := 7) (N := some 69) #[true, true, true, true, true, true, true, true, true, true, true, true, true, true, false] rfl rfl (one_of HT_.out (by kernel_rfl)) (by decide) (fun K hK => ?_)
                                        have hcv46 := own_string (P := Try.prog) Try.underlying30 Try.underlying5 Try.underlying9 (Kd.own_of_R HO183.out)
                                        refine value_ (w1 := ?_) (v := ?_) (by rfl) rfl ?_ ?_
                                        rotate_left 2
                                        · go_simp
                                          constructor
                                          · rfl
                                          · rfl
                                        clear hcv46
                                        refine hK.out _ _ ((Kd.C_string_as Try.underlying30 Try.underlying5 Try.underlying9 (Kd.C_below HR184.out (by repeat (first | (with_reducible first | exact HB.out | apply below_alloc | apply pw_below_drewN | apply below_drew1) | exact HB.out))))) (fun hHeld => ?_)
                                        clear hK K
                                        refine norm_ (a' := ?_) ?_ ?_
                                        rotate_left
                                        · show Act.put _ (some 69) _ = _
                                          simp only [Act.put, List.setIfInBounds_toArray, List.set_cons_zero, List.set_cons_succ, i64_w, i32_w]
                                          rfl
                                        refine pure_ (i := 14) (N := some 76) (v := ?_) (a' := ?_) #[true, true, true, true, true, true, true, true, true, true, true, true, true, true, true] rfl rfl (any_of HT_.out (by kernel_rfl)) (fun _ _ _ h => h) (Or.inl ⟨by rfl, ?_⟩) ?_ ?_
                                        rotate_left
                                        · intro w'
                                          go_simp
                                          with_reducible rfl
                                        rotate_left
                                        · simp only [Act.put, List.setIfInBounds_toArray, List.set_cons_zero, List.set_cons_succ, i64_w, i32_w]
                                          rfl
                                        refine done_ (done_of HT_.out (by kernel_rfl)) ?_
                                        try go_wp2
                                        refine bodyPost_ret (results_list (rs := [.tmp 2, .tmp 3, .tmp 4, .tmp 5]) rfl (by simp) (.tmp (.tmp (.tmp (.tmp .nil))))) rfl ?_
                                        exact ⟨_, by first | rfl | (simp [errW_none, errW_some] <;> rfl) | (simp only [← hji15, ← hji19]; first | rfl | (simp [errW_none, errW_some] <;> rfl)) | (simp [*, errW_none, errW_some] <;> rfl), by first | exact Kd.R_nil _ _ _ _ _ | exact Kd.N_nil _ _ _ _ _ | exact Kd.V_nil _ _ _ _ _ | exact Kd.Q_nil _ _ _ _ _ | exact Kd.S_nil _ _ _ _ _, by repeat (first | (with_reducible first | exact HB.out | apply below_alloc | apply pw_below_drewN | apply below_drew1) | exact HB.out)⟩
                                    · rw [if_neg c27] at H
                                      exact absurd H (by simp)
                                  · rw [if_neg c26] at H
                                    exact absurd H (by simp)
                                · rw [if_neg c21] at H
                                  exact absurd H (by simp)
                              · rw [if_neg c20] at H
                                exact absurd H (by simp)
                            · rw [if_neg c18] at H
                              exact absurd H (by simp)
                          · rw [if_neg c17] at H
                            exact absurd H (by simp)
                        · rw [if_neg c16] at H
                          exact absurd H (by simp)
                · rw [if_neg c11] at H
                  have c11b0 : (t176 == 0) = false := beq_eq_false_iff_ne.mpr c11
                  have c11b1 : (t176 != 0) = true := bne_iff_ne.mpr c11
                  simp only [Option.some.injEq, Prod.mk.injEq] at H
                  obtain ⟨rfl, rfl, rfl, rfl⟩ := H
                  go_wp2
                  refine bodyPost_ret (results_list (rs := [.tmp 2, .tmp 3, .tmp 4, .tmp 5]) rfl (by simp) (.tmp (.tmp (.tmp (.tmp .nil))))) rfl ?_
                  exact ⟨_, by first | rfl | (simp [errW_none, errW_some] <;> rfl) | (simp [*, errW_none, errW_some] <;> rfl), by first | exact Kd.R_nil _ _ _ _ _ | exact Kd.N_nil _ _ _ _ _ | exact Kd.V_nil _ _ _ _ _ | exact Kd.Q_nil _ _ _ _ _ | exact Kd.S_nil _ _ _ _ _, by repeat (first | (with_reducible first | exact HB.out | apply below_alloc | apply pw_below_drewN | apply below_drew1) | exact HB.out)⟩
        · rw [if_neg c5] at H
          exact absurd H (by simp)
    · rw [if_neg c3] at H
      exact absurd H (by simp)

end Go.Proofs.Ytoamlagpnnmnhab.PWalTorn
