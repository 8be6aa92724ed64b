-- Written for this claim by a program of this seat (a turned copy of the printer)
import Derived.Test.YtjnhlbelpflobabPFrameAllx0
import Derived.Test.YtjnhlbelpflobabPFrameAllx4
namespace Go.Proofs.Ytjnhlbelpflobab.PFrameAll
open Go.RowKit Go.Proofs.YtjnhlbelpflobabW.PrintWords Go.Proofs.YtjnhlbelpflobabW.PrintLast Go.Proofs.YtjnhlbelpflobabW.PrintMore
attribute [local go_sem] max2_int min2_int max_two min_two max_three min_three max_four min_four   -- for this text's walks alone
set_option linter.unusedVariables false
set_option linter.unusedSimpArgs false

/-! ### donatusref1_Open: function 16 -/
mutual
def donatusref1_Open.j0 : Nat → List Int → Int → Int → Int → Bool → Option (Int × List Int × Int × Int)
  | 0, _, _, _, _, _ => none
  | k + 1, x0, x6, x7, x8, x31 => if x31 = true then (some (0, ([] : List Int), 0, 3)) else (if x8 = 2 then (some (0, ([] : List Int), 0, x8)) else (if x8 = 0 then (if x6 < 0 then (donatusref1_Open.j1 k x0 x6 x7 true) else (donatusref1_Open.j1 k x0 x6 x7 (decide (x6 > 4000)))) else (donatusref1_Open.j1 k x0 x6 x7 true)))
def donatusref1_Open.j1 : Nat → List Int → Int → Int → Bool → Option (Int × List Int × Int × Int)
  | 0, _, _, _, _ => none
  | k + 1, x0, x6, x7, x44 => if x44 = true then (some (0, ([] : List Int), 0, 3)) else (if (x0.length : Int) < (wrap64 ((wrap64 ((wrap64 (1 + x7)) + 4)) + x6)) then (some (0, ([] : List Int), 0, 2)) else (if 0 ≤ (wrap64 ((wrap64 (1 + x7)) + 4)) then (if (wrap64 ((wrap64 (1 + x7)) + 4)) ≤ (wrap64 ((wrap64 ((wrap64 (1 + x7)) + 4)) + x6)) then (if (wrap64 ((wrap64 ((wrap64 (1 + x7)) + 4)) + x6)) ≤ (x0.length : Int) then ((some ((x0.take ((wrap64 ((wrap64 ((wrap64 (1 + x7)) + 4)) + x6)) : Int).toNat).drop ((wrap64 ((wrap64 (1 + x7)) + 4)) : Int).toNat : List Int)).bind fun y243 => (if 0 < (x0.length : Int) then ((donatusref1_Seal.f k (wrap64 (rd x0 0)) y243).bind fun t249 => (if 0 ≤ (wrap64 ((wrap64 ((wrap64 (1 + x7)) + 4)) + x6)) then (if (strOfNums t249).toList = (strOfNums (x0.take ((wrap64 ((wrap64 ((wrap64 (1 + x7)) + 4)) + x6)) : Int).toNat)).toList then (some (wrap64 (rd x0 0), y243, wrap64 ((wrap64 ((wrap64 (1 + x7)) + 4)) + x6), 0)) else (some (0, ([] : List Int), 0, 3))) else (none))) else (none))) else (none)) else (none)) else (none)))
end
def donatusref1_Open.f (k : Nat) (l0 : List Int) : Option (Int × List Int × Int × Int) := if (l0.length : Int) = 0 then (some (0, ([] : List Int), 0, 2)) else (if 0 < (l0.length : Int) then (if (rd l0 0) = 0 then (some (0, ([] : List Int), 0, 3)) else (if 1 ≤ (l0.length : Int) then ((donatusref1_Get.f k (l0.drop 1)).bind fun bt240 => (if bt240.2.2 = 2 then (donatusref1_Open.j0 k l0 bt240.1 bt240.2.1 bt240.2.2 (decide ((l0.length : Int) > 2))) else (donatusref1_Open.j0 k l0 bt240.1 bt240.2.1 bt240.2.2 false))) else (none))) else (none))
theorem donatusref1_Open.mono_l : ∀ k, (∀ y0 y1 y2 y3 y4, LeO (donatusref1_Open.j0 k y0 y1 y2 y3 y4) (donatusref1_Open.j0 (k + 1) y0 y1 y2 y3 y4)) ∧ (∀ y0 y1 y2 y3, LeO (donatusref1_Open.j1 k y0 y1 y2 y3) (donatusref1_Open.j1 (k + 1) y0 y1 y2 y3))
  | 0 => ⟨fun _ _ _ _ _ r h => by simp [donatusref1_Open.j0] at h, fun _ _ _ _ r h => by simp [donatusref1_Open.j1] at h⟩
  | k + 1 => by
    obtain ⟨ih0, ih1⟩ := donatusref1_Open.mono_l k
    refine ⟨?_, ?_⟩
    · intro y0 y1 y2 y3 y4
      unfold donatusref1_Open.j0
      repeat' first
      | (with_reducible exact ih0 _ _ _ _ _)
      | (with_reducible exact ih1 _ _ _ _)
      | (with_reducible exact donatusref1_Get.mono _ _)
      | (with_reducible exact donatusref1_Seal.mono _ _ _)
      | (with_reducible exact LeO.refl _)
      | (with_reducible exact LeO.none _)
      | (with_reducible refine LeO.ite ?_ ?_)
      | (with_reducible refine LeO.bind ?_ (fun _ => ?_))
      | exact ih0 _ _ _ _ _
      | exact ih1 _ _ _ _
      | exact donatusref1_Get.mono _ _
      | exact donatusref1_Seal.mono _ _ _
      | exact LeO.none _
      | refine LeO.ite ?_ ?_
      | refine LeO.bind ?_ (fun _ => ?_)
    · intro y0 y1 y2 y3
      unfold donatusref1_Open.j1
      repeat' first
      | (with_reducible exact ih0 _ _ _ _ _)
      | (with_reducible exact ih1 _ _ _ _)
      | (with_reducible exact donatusref1_Get.mono _ _)
      | (with_reducible exact donatusref1_Seal.mono _ _ _)
      | (with_reducible exact LeO.refl _)
      | (with_reducible exact LeO.none _)
      | (with_reducible refine LeO.ite ?_ ?_)
      | (with_reducible refine LeO.bind ?_ (fun _ => ?_))
      | exact ih0 _ _ _ _ _
      | exact ih1 _ _ _ _
      | exact donatusref1_Get.mono _ _
      | exact donatusref1_Seal.mono _ _ _
      | exact LeO.none _
      | refine LeO.ite ?_ ?_
      | refine LeO.bind ?_ (fun _ => ?_)
theorem donatusref1_Open.mono : ∀ a0 k, LeO (donatusref1_Open.f k a0) (donatusref1_Open.f (k + 1) a0) := by
  intro a0 k
  obtain ⟨ih0, ih1⟩ := donatusref1_Open.mono_l k
  unfold donatusref1_Open.f
  repeat' first
      | (with_reducible exact ih0 _ _ _ _ _)
      | (with_reducible exact ih1 _ _ _ _)
      | (with_reducible exact donatusref1_Get.mono _ _)
      | (with_reducible exact donatusref1_Seal.mono _ _ _)
      | (with_reducible exact LeO.refl _)
      | (with_reducible exact LeO.none _)
      | (with_reducible refine LeO.ite ?_ ?_)
      | (with_reducible refine LeO.bind ?_ (fun _ => ?_))
      | exact ih0 _ _ _ _ _
      | exact ih1 _ _ _ _
      | exact donatusref1_Get.mono _ _
      | exact donatusref1_Seal.mono _ _ _
      | exact LeO.none _
      | refine LeO.ite ?_ ?_
      | refine LeO.bind ?_ (fun _ => ?_)
def donatusref1_Open.T16 : Bool × List (List Nat × List Nat) := (true, [([], []), ([0], [0]), ([1], [1]), ([2], [2]), ([], []), ([3, 4], [3, 4]), ([5], [5]), ([], []), ([], []), ([], []), ([8, 9], [8, 9]), ([7, 10], [7, 10]), ([11], [11]), ([6, 12], [6, 12])])
def donatusref1_Open.B16 : List Nat := [0, 1, 3, 7, 0, 31, 63, 0, 0, 0, 768, 1920, 3968, 8191]
theorem donatusref1_Open.tab16 : rtab .any (opsOf Try.f16 16) = donatusref1_Open.T16 := by kernel_rfl
theorem donatusref1_Open.bits16 : waitsOk donatusref1_Open.T16.2 donatusref1_Open.B16 = true := by kernel_rfl
set_option maxHeartbeats 8000000 in
set_option maxRecDepth 100000 in
theorem donatusref1_Open.calls (k : Nat) (P0_ : Nat → Prop) (A0 : Option Addr) (c0 : Nat) (l0 : List Int) (r1 : Int) (r2 : List Int) (r3 : Int) (r4 : Int) (w : World) (hs0 : Kd.V (Kd.int .u8) 5 w w.heap.size (fun k_ => P0_ k_) (.slice A0 l0.length c0) l0) (h : donatusref1_Open.f k l0 = some (r1, r2, r3, r4)) :
    Calls Try.prog 16 #[.slice A0 l0.length c0] w fun e w' => ∃ v1_ : Value, e = .returned (.tuple #[.int .i64 r1, v1_, .int .i64 r3, .int .i64 r4]) ∧ Kd.V (Kd.int .u8) 5 w' w.heap.size (fun k_ => (P0_ k_ ∨ w.heap.size ≤ k_)) v1_ r2 ∧ Below w.heap.size w w' := by
  have HO0 := Aside0.mk (show Kd.V (Kd.int .u8) 5 w w.heap.size (fun k_ => (P0_ k_ ∨ w.heap.size ≤ k_)) (.slice A0 l0.length c0) l0 from Kd.V_mono hs0 (fun k_ hk => .inl hk))
  have HB := Aside0.mk (Below.refl w.heap.size w)
  have H : (if (l0.length : Int) = 0 then (some (0, ([] : List Int), 0, 2)) else (if 0 < (l0.length : Int) then (if (rd l0 0) = 0 then (some (0, ([] : List Int), 0, 3)) else (if 1 ≤ (l0.length : Int) then ((donatusref1_Get.f k (l0.drop 1)).bind fun bt240 => (if bt240.2.2 = 2 then (donatusref1_Open.j0 k l0 bt240.1 bt240.2.1 bt240.2.2 (decide ((l0.length : Int) > 2))) else (donatusref1_Open.j0 k l0 bt240.1 bt240.2.1 bt240.2.2 false))) else (none))) else (none))) = some (r1, r2, r3, r4) := h
  clear h
  by_cases c2 : (l0.length : Int) = 0
  · rw [if_pos c2] at H
    have c2b0 : ((l0.length : Int) == 0) = true := beq_iff_eq.mpr c2
    have c2b1 : ((l0.length : Int) != 0) = false := bne_eq_false_iff_eq.mpr c2
    clear c2
    simp only [Option.some.injEq, Prod.mk.injEq] at H
    obtain ⟨rfl, rfl, rfl, rfl⟩ := H
    go_enter Try.func16, Try.ntmps16
    go_wp2
    refine bodyPost_ret (results_list (rs := [.tmp 2, .tmp 3, .tmp 4, .tmp 5]) rfl (by simp) (.tmp (.tmp (.tmp (.tmp .nil))))) rfl ?_
    exact ⟨_, by first | rfl | (simp [errW_none, errW_some] <;> rfl) | (simp [*, errW_none, errW_some] <;> rfl), Kd.V_nil _ _ _ _ _, by repeat (first | (with_reducible first | exact HB.out | apply below_alloc | apply pw_below_drewN | apply below_drew1) | exact HB.out)⟩
  · rw [if_neg c2] at H
    have c2b0 : ((l0.length : Int) == 0) = false := beq_eq_false_iff_ne.mpr c2
    have c2b1 : ((l0.length : Int) != 0) = true := bne_iff_ne.mpr c2
    have c2b2 : ¬ (l0 = []) := fun h_ => c2 (by rw [h_]; rfl)
    by_cases c3 : 0 < (l0.length : Int)
    · rw [if_pos c3] at H
      have c3b0 : decide (0 < (l0.length : Int)) = true := decide_eq_true c3
      have c3b1 : decide (0 < l0.length) = true := decide_eq_true (by omega)
      clear c3
      by_cases c4 : (rd l0 0) = 0
      · rw [if_pos c4] at H
        have c4b0 : ((rd l0 0) == 0) = true := beq_iff_eq.mpr c4
        have c4b1 : ((rd l0 0) != 0) = false := bne_eq_false_iff_eq.mpr c4
        clear c4
        simp only [Option.some.injEq, Prod.mk.injEq] at H
        obtain ⟨rfl, rfl, rfl, rfl⟩ := H
        have p234 : 0 ≤ (0 : Int) := (by omega)
        have q234 : 0 < (l0.length : Int) := of_decide_eq_true (by first | (with_reducible assumption) | assumption)
        obtain ⟨ad234, e234, hx234_0⟩ := Kd.at_int (Kd.V_reads' HO0.out).2.2 0 p234 q234
        cases e234
        have qi234 : (0 < l0.length) = True := eq_true (by omega)
        (try rw [show ((0 : Int)).toNat = 0 from rfl] at hx234_0)
        (try rw [Addr.add_zero'] at hx234_0)
        replace p234 := eq_true p234
        replace q234 := eq_true q234
        go_enter Try.func16, Try.ntmps16
        go_wp2
        refine bodyPost_ret (results_list (rs := [.tmp 2, .tmp 3, .tmp 4, .tmp 5]) rfl (by simp) (.tmp (.tmp (.tmp (.tmp .nil))))) rfl ?_
        exact ⟨_, by first | rfl | (simp [errW_none, errW_some] <;> rfl) | (simp [*, errW_none, errW_some] <;> rfl), Kd.V_nil _ _ _ _ _, by repeat (first | (with_reducible first | exact HB.out | apply below_alloc | apply pw_below_drewN | apply below_drew1) | exact HB.out)⟩
      · rw [if_neg c4] at H
        have c4b0 : ((rd l0 0) == 0) = false := beq_eq_false_iff_ne.mpr c4
        have c4b1 : ((rd l0 0) != 0) = true := bne_iff_ne.mpr c4
        by_cases c5 : 1 ≤ (l0.length : Int)
        · rw [if_pos c5] at H
          have c5b0 := eq_true c5
          have c5b1 : decide (1 ≤ (l0.length : Int)) = true := decide_eq_true c5
          clear c5
          obtain ⟨y235, hy235⟩ : ∃ y_ : List Int, y_ = (l0.drop 1) := ⟨_, rfl⟩
          replace H : ((donatusref1_Get.f k y235).bind fun bt240 => (if bt240.2.2 = 2 then (donatusref1_Open.j0 k l0 bt240.1 bt240.2.1 bt240.2.2 (decide ((l0.length : Int) > 2))) else (donatusref1_Open.j0 k l0 bt240.1 bt240.2.1 bt240.2.2 false))) = some (r1, r2, r3, r4) := by first | (rw [hy235]; with_reducible exact H) | (have H2_ := (Option.bind_some _ _).symm.trans H; rw [hy235]; with_reducible exact H2_) | (have H2_ := (Option.bind_some _ _).symm.trans H; with_reducible exact H2_) | with_reducible exact H | (rw [hy235]; exact H) | exact H
          have Ny235 := Aside0.mk hy235
          clear hy235
          replace H := Option.bind_eq_some_iff.mp H
          obtain ⟨⟨t240, t241, t242⟩, A60, H⟩ := H
          replace H : (if t242 = 2 then (donatusref1_Open.j0 k l0 t240 t241 t242 (decide ((l0.length : Int) > 2))) else (donatusref1_Open.j0 k l0 t240 t241 t242 false)) = some (r1, r2, r3, r4) := H
          have A6 := Aside0.mk A60
          clear A60
          have HC7 := Aside0.mk H
          clear H
          have p234 : 0 ≤ (0 : Int) := (by omega)
          have q234 : 0 < (l0.length : Int) := of_decide_eq_true (by first | (with_reducible assumption) | assumption)
          obtain ⟨ad234, e234, hx234_0⟩ := Kd.at_int (Kd.V_reads' HO0.out).2.2 0 p234 q234
          cases e234
          have qi234 : (0 < l0.length) = True := eq_true (by omega)
          (try rw [show ((0 : Int)).toNat = 0 from rfl] at hx234_0)
          (try rw [Addr.add_zero'] at hx234_0)
          replace p234 := eq_true p234
          replace q234 := eq_true q234
          have q8 : (1 : Int) ≤ ((l0.length : Int) : Int) := of_decide_eq_true (by first | (with_reducible assumption) | assumption)
          obtain ⟨i08, hi08, _, hsz8, _⟩ := info_parts info5
          have hroom8 : l0.length ≤ c0 := (Kd.V_reads' HO0.out).2.1
          have hC8 : Kd.F (Kd.int .u8) _ _ (some ad234) l0.length l0 := (Kd.V_at (base := w.heap.size) HO0.out).2.2
          have hcut8 := cut_from (P := Try.prog) 22 5 .i64 Try.underlying22 hi08 1 hsz8 (some ad234) l0.length c0 1 (by omega) q8
          have hr8 := Kd.F_cut (m := (1 : Int).toNat) (c := c0) hC8 (by omega) hroom8
          obtain ⟨A8, hA8⟩ : ∃ A1, A1 = (if c0 = (1 : Int).toNat then (some ad234) else ((some ad234) : Option Addr).map (·.add ((1 : Int).toNat * 1))) := ⟨_, rfl⟩
          obtain ⟨c8, hc8⟩ : ∃ c1, c1 = c0 - (1 : Int).toNat := ⟨_, rfl⟩
          have hy8 : y235.length = l0.length - (1 : Int).toNat := (by rw [Ny235.out, List.length_drop] <;> omega)
          rw [show (l0).drop (1 : Int).toNat = y235 from Ny235.out.symm] at hr8
          replace hr8 : Kd.F (Kd.int .u8) _ _ A8 y235.length y235 := (by rw [hA8]; exact hr8)
          rw [← hy8, ← hA8, ← hc8] at hcut8
          have HO239 := Aside0.mk (show Kd.V (Kd.int .u8) 5 _ w.heap.size _ (.slice A8 y235.length c8) y235 from Kd.V_mk (by rw [hy8, hc8]; exact Nat.sub_le_sub_right hroom8 _) hr8)
          have HC239 := Aside0.mk (show y235.length ≤ c8 from by rw [hy8, hc8]; exact Nat.sub_le_sub_right hroom8 _)
          clear hr8 hC8 hroom8 hi08 hsz8 hc8
          have KY8 := Aside0.mk hy8
          have KA8 := Aside0.mk hA8
          clear hy8 hA8
          replace q8 := eq_true q8
          go_enter Try.func16, Try.ntmps16
          go_upto_region 6 with (first | ((with_reducible refine gate_callee (f := 24) rfl ?_); refine goesL_ (some 21) rfl rfl Try.func24 (by kernel_rfl) rfl #[.slice A8 y235.length c8] rfl (by (try simp only [List.map_toArray, List.map_cons, List.map_nil]); first | done | rfl | (simp only [List.length_drop, List.length_take]; rfl)) ?_; (with_reducible refine (donatusref1_Get.calls k _ _ y235 t240 t241 t242 _ ?side1 ?side2 A6.out).mono ?_); (case side1 => repeat (first | exact (Kd.V_reads' HO239.out).2.2 | (with_reducible refine Kd.C_alloc ?_ _) | (with_reducible refine Kd.C_drewN ?_ _) | (with_reducible refine Kd.C_drew ?_))); (case side2 => exact (Kd.V_reads' HO239.out).2.1); rintro e w' ⟨rfl, ⟨nd, rfl⟩⟩; refine ⟨_, rfl, ?_⟩))
          (try simp only [Act.put, List.setIfInBounds_toArray, List.set_cons_zero, List.set_cons_succ])
          go_cut [31] (fun v31 wc => ∃ (kq : Nat) (x31_6 : Bool), v31 = .bool x31_6 ∧ Aside0 (donatusref1_Open.j0 kq l0 t240 t241 t242 x31_6 = some (r1, r2, r3, r4)) ∧ Aside0 (kq ≤ k) ∧ Aside0 (Kd.V (Kd.int .u8) 5 wc w.heap.size (fun k_ => (P0_ k_ ∨ w.heap.size ≤ k_)) (.slice (some ad234) l0.length c0) l0) ∧ Aside0 (Below w.heap.size w wc))
          case first =>
            have H := HC7.out
            clear HC7
            by_cases c9 : t242 = 2
            · rw [if_pos c9] at H
              have c9b0 : (t242 == 2) = true := beq_iff_eq.mpr c9
              have c9b1 : (t242 != 2) = false := bne_eq_false_iff_eq.mpr c9
              clear c9
              (first | rw [c9b0] | (simp only [i64_w, i32_w]; rw [c9b0]) | skip)
              have H' := Aside0.mk H
              clear H
              go_wp2
              go_meet
              case rel => exact ⟨_, (decide ((l0.length : Int) > 2)), (by first | rfl | (simp; done) | (simp [*]; done)), H', ⟨by first | omega | exact Nat.le_refl _⟩, ⟨by (with_reducible repeat (first | apply Kd.V_alloc | apply Kd.V_drewN | apply Kd.V_drew)); first | exact HO0.out | exact Kd.V_mono HO0.out (fun _ h_ => by simp only [Kd.own_len] at h_ ⊢; exact h_)⟩, ⟨by repeat (first | (with_reducible first | exact HB.out | apply below_alloc | apply pw_below_drewN | apply below_drew1) | exact HB.out)⟩⟩
            · rw [if_neg c9] at H
              have c9b0 : (t242 == 2) = false := beq_eq_false_iff_ne.mpr c9
              have c9b1 : (t242 != 2) = true := bne_iff_ne.mpr c9
              (first | rw [c9b0] | (simp only [i64_w, i32_w]; rw [c9b0]) | skip)
              have H' := Aside0.mk H
              clear H
              go_wp2
              go_meet
              case rel => exact ⟨_, (false), (by first | rfl | (simp; done) | (simp [*]; done)), H', ⟨by first | omega | exact Nat.le_refl _⟩, ⟨by (with_reducible repeat (first | apply Kd.V_alloc | apply Kd.V_drewN | apply Kd.V_drew)); first | exact HO0.out | exact Kd.V_mono HO0.out (fun _ h_ => by simp only [Kd.own_len] at h_ ⊢; exact h_)⟩, ⟨by repeat (first | (with_reducible first | exact HB.out | apply below_alloc | apply pw_below_drewN | apply below_drew1) | exact HB.out)⟩⟩
          case rest =>
            clear HC7
            try clear c1
            try clear c2
            try clear c2b0
            try clear c2b1
            try clear c2b2
            try clear p2
            try clear q2
            try clear hx2
            try clear qi2
            try clear c3
            try clear c3b0
            try clear c3b1
            try clear c4
            try clear c4b0
            try clear c4b1
            try clear c5
            try clear c5b0
            try clear c5b1
            try clear c8
            try clear q8
            try clear c9
            try clear c9b0
            try clear c9b1
            try clear hx234_0
            try clear p234
            try clear q234
            try clear q8
            obtain ⟨kq, x31_6, rfl, HA, HJ6, HO_0, HB⟩ := hcut
            cases kq with
            | zero => exact absurd HA.out (by simp [donatusref1_Open.j0])
            | succ kj6 =>
              have H := HA.out
              clear HA
              simp only [donatusref1_Open.j0] at H
              by_cases c10 : x31_6 = true
              · subst c10
                have H1 : (some (0, ([] : List Int), 0, 3)) = some (r1, r2, r3, r4) := by rw [if_pos rfl] at H; exact H
                clear H
                have H := H1
                clear H1
                simp only [Option.some.injEq, Prod.mk.injEq] at H
                obtain ⟨rfl, rfl, rfl, rfl⟩ := H
                go_wp2
                refine bodyPost_ret (results_list (rs := [.tmp 2, .tmp 3, .tmp 4, .tmp 5]) rfl (by simp) (.tmp (.tmp (.tmp (.tmp .nil))))) rfl ?_
                exact ⟨_, by first | rfl | (simp [errW_none, errW_some] <;> rfl) | (simp [*, errW_none, errW_some] <;> rfl), Kd.V_nil _ _ _ _ _, by repeat (first | (with_reducible first | exact HB.out | apply below_alloc | apply pw_below_drewN | apply below_drew1) | exact HB.out)⟩
              · replace c10 := Bool.eq_false_iff.mpr c10
                subst c10
                have H1 : (if t242 = 2 then (some (0, ([] : List Int), 0, t242)) else (if t242 = 0 then (if t240 < 0 then (donatusref1_Open.j1 kj6 l0 t240 t241 true) else (donatusref1_Open.j1 kj6 l0 t240 t241 (decide (t240 > 4000)))) else (donatusref1_Open.j1 kj6 l0 t240 t241 true))) = some (r1, r2, r3, r4) := by rw [if_neg (show ¬ (false = true) by decide)] at H; exact H
                clear H
                have H := H1
                clear H1
                by_cases c11 : t242 = 2
                · rw [if_pos c11] at H
                  have c11b0 : (t242 == 2) = true := beq_iff_eq.mpr c11
                  have c11b1 : (t242 != 2) = false := bne_eq_false_iff_eq.mpr c11
                  clear c11
                  simp only [Option.some.injEq, Prod.mk.injEq] at H
                  obtain ⟨rfl, rfl, rfl, rfl⟩ := H
                  go_wp2
                  refine bodyPost_ret (results_list (rs := [.tmp 2, .tmp 3, .tmp 4, .tmp 5]) rfl (by simp) (.tmp (.tmp (.tmp (.tmp .nil))))) rfl ?_
                  exact ⟨_, by first | rfl | (simp [errW_none, errW_some] <;> rfl) | (simp [*, errW_none, errW_some] <;> rfl), Kd.V_nil _ _ _ _ _, by repeat (first | (with_reducible first | exact HB.out | apply below_alloc | apply pw_below_drewN | apply below_drew1) | exact HB.out)⟩
                · rw [if_neg c11] at H
                  have c11b0 : (t242 == 2) = false := beq_eq_false_iff_ne.mpr c11
                  have c11b1 : (t242 != 2) = true := bne_iff_ne.mpr c11
                  have HC12 := Aside0.mk H
                  clear H
                  go_upto_region 10 with (fail)
                  go_cut [44] (fun v44 wc => ∃ (kq : Nat) (x44_11 : Bool), v44 = .bool x44_11 ∧ Aside0 (donatusref1_Open.j1 kq l0 t240 t241 x44_11 = some (r1, r2, r3, r4)) ∧ Aside0 (kq ≤ kj6) ∧ Aside0 (Kd.V (Kd.int .u8) 5 wc w.heap.size (fun k_ => (P0_ k_ ∨ w.heap.size ≤ k_)) (.slice (some ad234) l0.length c0) l0) ∧ Aside0 (Below w.heap.size w wc))
                  case first =>
                    have H := HC12.out
                    clear HC12
                    by_cases c13 : t242 = 0
                    · rw [if_pos c13] at H
                      have c13b0 : (t242 == 0) = true := beq_iff_eq.mpr c13
                      have c13b1 : (t242 != 0) = false := bne_eq_false_iff_eq.mpr c13
                      clear c13
                      (first | rw [c13b0] | (simp only [i64_w, i32_w]; rw [c13b0]) | skip)
                      by_cases c14 : t240 < 0
                      · rw [if_pos c14] at H
                        have c14b0 : decide (t240 < 0) = true := decide_eq_true c14
                        clear c14
                        have H' := Aside0.mk H
                        clear H
                        go_wp2
                        go_meet
                        case rel => exact ⟨_, (true), (by first | rfl | (simp; done) | (simp [*]; done)), H', ⟨by have := HJ6.out; first | omega | exact Nat.le_refl _⟩, ⟨by (with_reducible repeat (first | apply Kd.V_alloc | apply Kd.V_drewN | apply Kd.V_drew)); first | exact HO_0.out | exact Kd.V_mono HO_0.out (fun _ h_ => by simp only [Kd.own_len] at h_ ⊢; exact h_)⟩, ⟨by repeat (first | (with_reducible first | exact HB.out | apply below_alloc | apply pw_below_drewN | apply below_drew1) | exact HB.out)⟩⟩
                      · rw [if_neg c14] at H
                        have c14b0 : decide (t240 < 0) = false := decide_eq_false c14
                        clear c14
                        have H' := Aside0.mk H
                        clear H
                        go_wp2
                        go_meet
                        case rel => exact ⟨_, (decide (t240 > 4000)), (by first | rfl | (simp; done) | (simp [*]; done)), H', ⟨by have := HJ6.out; first | omega | exact Nat.le_refl _⟩, ⟨by (with_reducible repeat (first | apply Kd.V_alloc | apply Kd.V_drewN | apply Kd.V_drew)); first | exact HO_0.out | exact Kd.V_mono HO_0.out (fun _ h_ => by simp only [Kd.own_len] at h_ ⊢; exact h_)⟩, ⟨by repeat (first | (with_reducible first | exact HB.out | apply below_alloc | apply pw_below_drewN | apply below_drew1) | exact HB.out)⟩⟩
                    · rw [if_neg c13] at H
                      have c13b0 : (t242 == 0) = false := beq_eq_false_iff_ne.mpr c13
                      have c13b1 : (t242 != 0) = true := bne_iff_ne.mpr c13
                      (first | rw [c13b0] | (simp only [i64_w, i32_w]; rw [c13b0]) | skip)
                      have H' := Aside0.mk H
                      clear H
                      go_wp2
                      go_meet
                      case rel => exact ⟨_, (true), (by first | rfl | (simp; done) | (simp [*]; done)), H', ⟨by have := HJ6.out; first | omega | exact Nat.le_refl _⟩, ⟨by (with_reducible repeat (first | apply Kd.V_alloc | apply Kd.V_drewN | apply Kd.V_drew)); first | exact HO_0.out | exact Kd.V_mono HO_0.out (fun _ h_ => by simp only [Kd.own_len] at h_ ⊢; exact h_)⟩, ⟨by repeat (first | (with_reducible first | exact HB.out | apply below_alloc | apply pw_below_drewN | apply below_drew1) | exact HB.out)⟩⟩
                  case rest =>
                    clear HC12
                    try clear c1
                    try clear c2
                    try clear c2b0
                    try clear c2b1
                    try clear c2b2
                    try clear p2
                    try clear q2
                    try clear hx2
                    try clear qi2
                    try clear c3
                    try clear c3b0
                    try clear c3b1
                    try clear c4
                    try clear c4b0
                    try clear c4b1
                    try clear c5
                    try clear c5b0
                    try clear c5b1
                    try clear c8
                    try clear q8
                    try clear c9
                    try clear c9b0
                    try clear c9b1
                    try clear c10
                    try clear c11
                    try clear c11b0
                    try clear c11b1
                    try clear c13
                    try clear c13b0
                    try clear c13b1
                    try clear c14
                    try clear c14b0
                    try clear hx234_0
                    try clear p2
                    try clear p234
                    try clear q2
                    try clear q234
                    try clear q8
                    obtain ⟨kq, x44_11, rfl, HA, HJ11, HO_0, HB⟩ := hcut
                    cases kq with
                    | zero => exact absurd HA.out (by simp [donatusref1_Open.j1])
                    | succ kj11 =>
                      have H := HA.out
                      clear HA
                      simp only [donatusref1_Open.j1] at H
                      by_cases c15 : x44_11 = true
                      · subst c15
                        have H1 : (some (0, ([] : List Int), 0, 3)) = some (r1, r2, r3, r4) := by rw [if_pos rfl] at H; exact H
                        clear H
                        have H := H1
                        clear H1
                        simp only [Option.some.injEq, Prod.mk.injEq] at H
                        obtain ⟨rfl, rfl, rfl, rfl⟩ := H
                        go_wp2
                        refine bodyPost_ret (results_list (rs := [.tmp 2, .tmp 3, .tmp 4, .tmp 5]) rfl (by simp) (.tmp (.tmp (.tmp (.tmp .nil))))) rfl ?_
                        exact ⟨_, by first | rfl | (simp [errW_none, errW_some] <;> rfl) | (simp [*, errW_none, errW_some] <;> rfl), Kd.V_nil _ _ _ _ _, by repeat (first | (with_reducible first | exact HB.out | apply below_alloc | apply pw_below_drewN | apply below_drew1) | exact HB.out)⟩
                      · replace c15 := Bool.eq_false_iff.mpr c15
                        subst c15
                        have H1 : (if (l0.length : Int) < (wrap64 ((wrap64 ((wrap64 (1 + t241)) + 4)) + t240)) then (some (0, ([] : List Int), 0, 2)) else (if 0 ≤ (wrap64 ((wrap64 (1 + t241)) + 4)) then (if (wrap64 ((wrap64 (1 + t241)) + 4)) ≤ (wrap64 ((wrap64 ((wrap64 (1 + t241)) + 4)) + t240)) then (if (wrap64 ((wrap64 ((wrap64 (1 + t241)) + 4)) + t240)) ≤ (l0.length : Int) then ((some ((l0.take ((wrap64 ((wrap64 ((wrap64 (1 + t241)) + 4)) + t240)) : Int).toNat).drop ((wrap64 ((wrap64 (1 + t241)) + 4)) : Int).toNat : List Int)).bind fun y243 => (if 0 < (l0.length : Int) then ((donatusref1_Seal.f kj11 (wrap64 (rd l0 0)) y243).bind fun t249 => (if 0 ≤ (wrap64 ((wrap64 ((wrap64 (1 + t241)) + 4)) + t240)) then (if (strOfNums t249).toList = (strOfNums (l0.take ((wrap64 ((wrap64 ((wrap64 (1 + t241)) + 4)) + t240)) : Int).toNat)).toList then (some (wrap64 (rd l0 0), y243, wrap64 ((wrap64 ((wrap64 (1 + t241)) + 4)) + t240), 0)) else (some (0, ([] : List Int), 0, 3))) else (none))) else (none))) else (none)) else (none)) else (none))) = some (r1, r2, r3, r4) := by rw [if_neg (show ¬ (false = true) by decide)] at H; exact H
                        clear H
                        have H := H1
                        clear H1
                        by_cases c16 : (l0.length : Int) < (wrap64 ((wrap64 ((wrap64 (1 + t241)) + 4)) + t240))
                        · rw [if_pos c16] at H
                          have c16b0 : decide ((l0.length : Int) < (wrap64 ((wrap64 ((wrap64 (1 + t241)) + 4)) + t240))) = true := decide_eq_true c16
                          clear c16
                          simp only [Option.some.injEq, Prod.mk.injEq] at H
                          obtain ⟨rfl, rfl, rfl, rfl⟩ := H
                          go_wp2
                          refine bodyPost_ret (results_list (rs := [.tmp 2, .tmp 3, .tmp 4, .tmp 5]) rfl (by simp) (.tmp (.tmp (.tmp (.tmp .nil))))) rfl ?_
                          exact ⟨_, by first | rfl | (simp [errW_none, errW_some] <;> rfl) | (simp [*, errW_none, errW_some] <;> rfl), Kd.V_nil _ _ _ _ _, by repeat (first | (with_reducible first | exact HB.out | apply below_alloc | apply pw_below_drewN | apply below_drew1) | exact HB.out)⟩
                        · rw [if_neg c16] at H
                          have c16b0 : decide ((l0.length : Int) < (wrap64 ((wrap64 ((wrap64 (1 + t241)) + 4)) + t240))) = false := decide_eq_false c16
                          clear c16
                          obtain ⟨ji17, hji17⟩ : ∃ j_ : Int, (wrap64 ((wrap64 (1 + t241)) + 4)) = j_ := ⟨_, rfl⟩
                          replace H : (if 0 ≤ (ji17) then (if (ji17) ≤ (wrap64 ((ji17) + t240)) then (if (wrap64 ((ji17) + t240)) ≤ (l0.length : Int) then ((some ((l0.take ((wrap64 ((ji17) + t240)) : Int).toNat).drop ((ji17) : Int).toNat : List Int)).bind fun y243 => (if 0 < (l0.length : Int) then ((donatusref1_Seal.f kj11 (wrap64 (rd l0 0)) y243).bind fun t249 => (if 0 ≤ (wrap64 ((ji17) + t240)) then (if (strOfNums t249).toList = (strOfNums (l0.take ((wrap64 ((ji17) + t240)) : Int).toNat)).toList then (some (wrap64 (rd l0 0), y243, wrap64 ((ji17) + t240), 0)) else (some (0, ([] : List Int), 0, 3))) else (none))) else (none))) else (none)) else (none)) else (none)) = some (r1, r2, r3, r4) := by first | (rw [hji17] at H; exact H) | (simp only [hji17] at H ⊢; exact H)
                          (try rw [hji17] at c16b0)
                          have hji17w : (IntKind.i64.wrap ((wrap64 (1 + t241)) + 4)) = ji17 := (i64_w _).trans hji17
                          by_cases c18 : 0 ≤ (ji17)
                          · rw [if_pos c18] at H
                            have c18b0 := eq_true c18
                            have c18b1 : decide (0 ≤ (ji17)) = true := decide_eq_true c18
                            clear c18
                            by_cases c19 : (ji17) ≤ (wrap64 ((ji17) + t240))
                            · rw [if_pos c19] at H
                              have c19b0 := eq_true c19
                              have c19b1 : decide ((ji17) ≤ (wrap64 ((ji17) + t240))) = true := decide_eq_true c19
                              by_cases c20 : (wrap64 ((ji17) + t240)) ≤ (l0.length : Int)
                              · rw [if_pos c20] at H
                                have c20b0 := eq_true c20
                                have c20b1 : decide ((wrap64 ((ji17) + t240)) ≤ (l0.length : Int)) = true := decide_eq_true c20
                                obtain ⟨y243, hy243⟩ : ∃ y_ : List Int, y_ = ((l0.take ((wrap64 ((ji17) + t240)) : Int).toNat).drop ((ji17) : Int).toNat) := ⟨_, rfl⟩
                                replace H : (if 0 < (l0.length : Int) then ((donatusref1_Seal.f kj11 (wrap64 (rd l0 0)) y243).bind fun t249 => (if 0 ≤ (wrap64 ((ji17) + t240)) then (if (strOfNums t249).toList = (strOfNums (l0.take ((wrap64 ((ji17) + t240)) : Int).toNat)).toList then (some (wrap64 (rd l0 0), y243, wrap64 ((ji17) + t240), 0)) else (some (0, ([] : List Int), 0, 3))) else (none))) else (none)) = some (r1, r2, r3, r4) := by first | (rw [hy243]; with_reducible exact H) | (have H2_ := (Option.bind_some _ _).symm.trans H; rw [hy243]; with_reducible exact H2_) | (have H2_ := (Option.bind_some _ _).symm.trans H; with_reducible exact H2_) | with_reducible exact H | (rw [hy243]; exact H) | exact H
                                have Ny243 := Aside0.mk hy243
                                clear hy243
                                by_cases c21 : 0 < (l0.length : Int)
                                · rw [if_pos c21] at H
                                  have c21b0 : decide (0 < (l0.length : Int)) = true := decide_eq_true c21
                                  have c21b1 : decide (0 < l0.length) = true := decide_eq_true (by omega)
                                  clear c21
                                  replace H := Option.bind_eq_some_iff.mp H
                                  obtain ⟨t249, A220, H⟩ := H
                                  replace H : (if 0 ≤ (wrap64 ((ji17) + t240)) then (if (strOfNums t249).toList = (strOfNums (l0.take ((wrap64 ((ji17) + t240)) : Int).toNat)).toList then (some (wrap64 (rd l0 0), y243, wrap64 ((ji17) + t240), 0)) else (some (0, ([] : List Int), 0, 3))) else (none)) = some (r1, r2, r3, r4) := H
                                  have A22 := Aside0.mk A220
                                  clear A220
                                  obtain ⟨ji23, hji23⟩ : ∃ j_ : Int, (wrap64 ((ji17) + t240)) = j_ := ⟨_, rfl⟩
                                  replace H : (if 0 ≤ (ji23) then (if (strOfNums t249).toList = (strOfNums (l0.take ((ji23) : Int).toNat)).toList then (some (wrap64 (rd l0 0), y243, ji23, 0)) else (some (0, ([] : List Int), 0, 3))) else (none)) = some (r1, r2, r3, r4) := by first | (rw [hji23] at H; exact H) | (simp only [hji23] at H ⊢; exact H)
                                  (try rw [hji23] at c19b0)
                                  (try rw [hji23] at c19b1)
                                  (try rw [hji23] at c19)
                                  (try rw [hji23] at c20b0)
                                  (try rw [hji23] at c20b1)
                                  (try rw [hji23] at c20)
                                  (try rw [hji23] at Ny243)
                                  (try rw [hji23] at A22)
                                  have hji23w : (IntKind.i64.wrap ((ji17) + t240)) = ji23 := (i64_w _).trans hji23
                                  by_cases c24 : 0 ≤ (ji23)
                                  · rw [if_pos c24] at H
                                    have c24b0 := eq_true c24
                                    have c24b1 : decide (0 ≤ (ji23)) = true := decide_eq_true c24
                                    clear c24
                                    have c25b0 := eq_true (of_decide_eq_true (by first | (with_reducible assumption) | assumption) : (ji23) ≤ (l0.length : Int))
                                    obtain ⟨y252, hy252⟩ : ∃ y_ : List Int, y_ = (l0.take ((ji23) : Int).toNat) := ⟨_, rfl⟩
                                    replace H : (if (strOfNums t249).toList = (strOfNums y252).toList then (some (wrap64 (rd l0 0), y243, ji23, 0)) else (some (0, ([] : List Int), 0, 3))) = some (r1, r2, r3, r4) := by first | (rw [hy252]; with_reducible exact H) | (have H2_ := (Option.bind_some _ _).symm.trans H; rw [hy252]; with_reducible exact H2_) | (have H2_ := (Option.bind_some _ _).symm.trans H; with_reducible exact H2_) | with_reducible exact H | (rw [hy252]; exact H) | exact H
                                    have Ny252 := Aside0.mk hy252
                                    clear hy252
                                    by_cases c26 : (strOfNums t249).toList = (strOfNums y252).toList
                                    · rw [if_pos c26] at H
                                      have c26b0 : ((strOfNums t249).toList == (strOfNums y252).toList) = true := beq_iff_eq.mpr c26
                                      have c26b1 : ((strOfNums t249).toList != (strOfNums y252).toList) = false := bne_eq_false_iff_eq.mpr c26
                                      clear c26
                                      simp only [Option.some.injEq, Prod.mk.injEq] at H
                                      obtain ⟨rfl, rfl, rfl, rfl⟩ := H
                                      have q27 : ((ji23) : Int) ≤ ((l0.length : Int) : Int) := of_decide_eq_true (by first | (with_reducible assumption) | assumption)
                                      obtain ⟨i027, hi027, _, hsz27, _⟩ := info_parts info5
                                      have hroom27 : l0.length ≤ c0 := (Kd.V_reads' HO_0.out).2.1
                                      have hC27 : Kd.F (Kd.int .u8) _ _ (some ad234) l0.length l0 := (Kd.V_at (base := w.heap.size) HO_0.out).2.2
                                      have ql27 : ((ji17) : Int) ≤ ((ji23) : Int) := of_decide_eq_true (by first | (with_reducible assumption) | assumption)
                                      have q027 : (0 : Int) ≤ ((ji17) : Int) := of_decide_eq_true (by first | (with_reducible assumption) | assumption)
                                      have hcut27 := cut_mid (P := Try.prog) 22 5 .i64 .i64 Try.underlying22 hi027 1 hsz27 (some ad234) l0.length c0 (ji17) (ji23) q027 ql27 q27 hroom27
                                      have hr27 := Kd.F_mid (lo := ((ji17) : Int).toNat) (hi := ((ji23) : Int).toNat) (c := c0) hC27 (by omega) (by omega) hroom27
                                      obtain ⟨A27, hA27⟩ : ∃ A1, A1 = (if c0 = ((ji17) : Int).toNat then (some ad234) else ((some ad234) : Option Addr).map (·.add (((ji17) : Int).toNat * 1))) := ⟨_, rfl⟩
                                      obtain ⟨c27, hc27⟩ : ∃ c1, c1 = c0 - ((ji17) : Int).toNat := ⟨_, rfl⟩
                                      have hy27 : y243.length = ((ji23) : Int).toNat - ((ji17) : Int).toNat := (by rw [Ny243.out, List.length_drop, List.length_take] <;> omega)
                                      rw [show ((l0).take ((ji23) : Int).toNat).drop ((ji17) : Int).toNat = y243 from Ny243.out.symm] at hr27
                                      replace hr27 : Kd.F (Kd.int .u8) _ _ A27 y243.length y243 := (by rw [hA27]; exact hr27)
                                      rw [← hy27, ← hA27, ← hc27] at hcut27
                                      have HO247 := Aside0.mk (show Kd.V (Kd.int .u8) 5 _ w.heap.size _ (.slice A27 y243.length c27) y243 from Kd.V_mk (by rw [hy27, hc27]; exact Nat.sub_le_sub_right (Nat.le_trans (by omega) hroom27) _) hr27)
                                      have HC247 := Aside0.mk (show y243.length ≤ c27 from by rw [hy27, hc27]; exact Nat.sub_le_sub_right (Nat.le_trans (by omega) hroom27) _)
                                      clear hr27 hC27 hroom27 hi027 hsz27 hc27
                                      have KY27 := Aside0.mk hy27
                                      have KA27 := Aside0.mk hA27
                                      clear hy27 hA27
                                      replace q27 := eq_true q27
                                      try go_wp2
                                      have n0_ := Aside0.mk (Kd.V_drew HO_0.out)
                                      have n1_ := Aside0.mk (Kd.V_drew HO247.out)
                                      have n2_ := Aside0.mk (below_drew1 HB.out)
                                      clear HO_0
                                      clear HO247
                                      clear HB
                                      have HO_0 := n0_
                                      have HO247 := n1_
                                      have HB := n2_
                                      clear n0_ n1_ n2_
                                      have p248 : 0 ≤ (0 : Int) := (by omega)
                                      have q248 : 0 < (l0.length : Int) := of_decide_eq_true (by first | (with_reducible assumption) | assumption)
                                      obtain ⟨ad248, e248, hx248_0⟩ := Kd.at_int (Kd.V_reads' HO_0.out).2.2 0 p248 q248
                                      obtain rfl : ad234 = ad248 := (by injection e248)
                                      have qi248 : (0 < l0.length) = True := eq_true (by omega)
                                      (try rw [show ((0 : Int)).toNat = 0 from rfl] at hx248_0)
                                      (try rw [Addr.add_zero'] at hx248_0)
                                      replace p248 := eq_true p248
                                      replace q248 := eq_true q248
                                      have q29 : ((ji23) : Int) ≤ ((l0.length : Int) : Int) := of_decide_eq_true (by first | (with_reducible assumption) | assumption)
                                      obtain ⟨i029, hi029, _, hsz29, _⟩ := info_parts info5
                                      have hroom29 : l0.length ≤ c0 := (Kd.V_reads' HO_0.out).2.1
                                      have hC29 : Kd.F (Kd.int .u8) _ _ (some ad234) l0.length l0 := (Kd.V_at (base := w.heap.size) HO_0.out).2.2
                                      have hcut29 := cut_to (P := Try.prog) 22 5 .i64 Try.underlying22 hi029 (some ad234) l0.length c0 (ji23) (of_decide_eq_true (by first | (with_reducible assumption) | assumption)) q29 hroom29
                                      have hr29 := Kd.F_take (m := ((ji23) : Int).toNat) hC29 (by omega)
                                      have hy29 : y252.length = ((ji23) : Int).toNat := (by rw [Ny252.out, List.length_take]; omega)
                                      rw [← Ny252.out] at hr29
                                      rw [← hy29] at hcut29
                                      have HO256 := Aside0.mk (show Kd.V (Kd.int .u8) 5 _ w.heap.size _ (.slice (some ad234) y252.length c0) y252 from Kd.V_mk (by omega) hr29)
                                      have HC256 := Aside0.mk (show y252.length ≤ c0 from by omega)
                                      clear hr29 hC29 hroom29 hi029 hsz29
                                      have KY29 := Aside0.mk hy29
                                      clear hy29
                                      replace q29 := eq_true q29
                                      refine start_ (n := 14) (S := fun w' => w'.cell? ad234 = some (.int .u8 (rd l0 0)) ∧ (∀ k_, k_ = y252.length → (convert 22 9 (.slice (some ad234) k_ c0)).run Try.prog w' = .ok (.string (strOfNums y252)) w')) (ds := []) #[false, false, false, false, false, false, false, false, false, false, false, false, false, false] (by kernel_rfl) rfl rfl ⟨(by obtain ⟨ad_, e_, h_⟩ := Kd.at_int (Kd.V_reads' HO_0.out).2.2 (0 : Int) (of_eq_true p248) (of_eq_true q248); cases e_ <;> (first | exact h_ | ((try rw [show ((0 : Int)).toNat = 0 from rfl] at h_); (try rw [Addr.add_zero'] at h_); exact h_) | (simp only [Go.Addr.add, ↓reduceIte] at h_; exact h_))), (Kd.V_string_as Try.underlying22 Try.underlying5 Try.underlying9 (by (with_reducible repeat (first | apply Kd.V_alloc | apply Kd.V_drewN | apply Kd.V_drew)); exact HO256.out))⟩ (fun hHeld => ?_); refine with_tabW donatusref1_Open.tab16 donatusref1_Open.bits16 (fun HT_ HW_ => ?_)
                                      generalize wc.drew = w28 at HO_0 HO247 HB HO256 hx248_0 hHeld ⊢
                                      refine pure_ (i := 0) (N := some 60) (v := ?_) (a' := ?_) #[true, false, false, false, false, false, false, false, false, false, false, false, false, false] rfl rfl (any_of HT_.out (by kernel_rfl)) (fun _ _ _ h => h) (Or.inl ⟨by rfl, ?_⟩) ?_ ?_
                                      rotate_left
                                      · intro w'
                                        go_simp
                                        with_reducible rfl
                                      rotate_left
                                      · simp only [Act.put, List.setIfInBounds_toArray, List.set_cons_zero, List.set_cons_succ, i64_w, i32_w]
                                        rfl
                                      refine pure_ (i := 1) (N := some 61) (v := ?_) (a' := ?_) #[true, true, false, false, false, false, false, false, false, false, false, false, false, false] rfl rfl (any_of HT_.out (by kernel_rfl)) (fun _ _ _ h => h) (Or.inl ⟨by rfl, ?_⟩) ?_ ?_
                                      rotate_left
                                      · intro w'
                                        go_simp
                                        with_reducible rfl
                                      rotate_left
                                      · simp only [Act.put, List.setIfInBounds_toArray, List.set_cons_zero, List.set_cons_succ, i64_w, i32_w]
                                        rfl
                                      refine pure_ (i := 4) (N := some 64) (v := ?_) (a' := ?_) #[true, true, false, false, true, false, false, false, false, false, false, false, false, false] rfl rfl (any_of HT_.out (by kernel_rfl)) (fun _ _ _ h => h) (Or.inl ⟨by rfl, ?_⟩) ?_ ?_
                                      rotate_left
                                      · intro w'
                                        go_simp
                                        with_reducible rfl
                                      rotate_left
                                      · simp only [Act.put, List.setIfInBounds_toArray, List.set_cons_zero, List.set_cons_succ, i64_w, i32_w]
                                        rfl
                                      refine pure_ (i := 7) (N := some 67) (v := ?_) (a' := ?_) #[true, true, false, false, true, false, false, true, false, false, false, false, false, false] rfl rfl (any_of HT_.out (by kernel_rfl)) (fun _ _ _ h => h) (Or.inl ⟨by rfl, ?_⟩) ?_ ?_
                                      rotate_left
                                      · intro w'
                                        go_simp
                                        with_reducible rfl
                                      rotate_left
                                      · simp only [Act.put, List.setIfInBounds_toArray, List.set_cons_zero, List.set_cons_succ, i64_w, i32_w]
                                        rfl
                                      refine pure_ (i := 8) (N := some 68) (v := ?_) (a' := ?_) #[true, true, false, false, true, false, false, true, true, false, false, false, false, false] rfl rfl (any_of HT_.out (by kernel_rfl)) (fun _ _ _ h => h) (Or.inl ⟨by rfl, ?_⟩) ?_ ?_
                                      rotate_left
                                      · intro w'
                                        go_simp
                                        with_reducible rfl
                                      rotate_left
                                      · simp only [Act.put, List.setIfInBounds_toArray, List.set_cons_zero, List.set_cons_succ, i64_w, i32_w]
                                        rfl
                                      refine pure_ (i := 9) (N := some 69) (v := ?_) (a' := ?_) #[true, true, false, false, true, false, false, true, true, true, false, false, false, false] rfl rfl (any_of HT_.out (by kernel_rfl)) (fun _ _ _ h => h) (Or.inl ⟨by rfl, ?_⟩) ?_ ?_
                                      rotate_left
                                      · intro w'
                                        go_simp
                                        with_reducible rfl
                                      rotate_left
                                      · simp only [Act.put, List.setIfInBounds_toArray, List.set_cons_zero, List.set_cons_succ, i64_w, i32_w]
                                        rfl
                                      refine pure_ (i := 10) (N := some 70) (v := ?_) (a' := ?_) #[true, true, false, false, true, false, false, true, true, true, true, false, false, false] rfl rfl (any_of HT_.out (by kernel_rfl)) (fun _ _ _ h => h) (Or.inl ⟨by rfl, ?_⟩) ?_ ?_
                                      rotate_left
                                      · intro w'
                                        go_simp
                                        with_reducible rfl
                                      rotate_left
                                      · simp only [Act.put, List.setIfInBounds_toArray, List.set_cons_zero, List.set_cons_succ, i64_w, i32_w]
                                        rfl
                                      refine pure_ (i := 11) (N := some 71) (v := ?_) (a' := ?_) #[true, true, false, false, true, false, false, true, true, true, true, true, false, false] rfl rfl (any_of HT_.out (by kernel_rfl)) (fun _ _ _ h => h) (Or.inl ⟨by rfl, ?_⟩) ?_ ?_
                                      rotate_left
                                      · intro w'
                                        go_simp
                                        with_reducible rfl
                                      rotate_left
                                      · simp only [Act.put, List.setIfInBounds_toArray, List.set_cons_zero, List.set_cons_succ, i64_w, i32_w]
                                        rfl
                                      refine take_ (i := 2) (N := some 62) (v := ?_) (a' := ?_) #[true, true, true, false, true, false, false, true, true, true, true, true, false, false] rfl rfl (take_ofW HT_.out HW_.out (by kernel_rfl)) (fun _ _ _ h => h) (Or.inl ⟨by rfl, ?_⟩) hHeld ?_ ?_
                                      rotate_left
                                      · rintro w' ⟨s0, s1⟩
                                        go_simp
                                        with_reducible rfl
                                      rotate_left
                                      · simp only [Act.put, List.setIfInBounds_toArray, List.set_cons_zero, List.set_cons_succ, i64_w, i32_w]
                                        rfl
                                      refine pure_ (i := 3) (N := some 63) (v := ?_) (a' := ?_) #[true, true, true, true, true, false, false, true, true, true, true, true, false, false] rfl rfl (any_of HT_.out (by kernel_rfl)) (fun _ _ _ h => h) (Or.inl ⟨by rfl, ?_⟩) ?_ ?_
                                      rotate_left
                                      · intro w'
                                        go_simp
                                        with_reducible rfl
                                      rotate_left
                                      · simp only [Act.put, List.setIfInBounds_toArray, List.set_cons_zero, List.set_cons_succ, i64_w, i32_w]
                                        rfl
                                      refine take_ (i := 12) (N := some 72) (v := ?_) (a' := ?_) #[true, true, true, true, true, false, false, true, true, true, true, true, true, false] rfl rfl (take_ofW HT_.out HW_.out (by kernel_rfl)) (fun _ _ _ h => h) (Or.inl ⟨by rfl, ?_⟩) hHeld ?_ ?_
                                      rotate_left
                                      · rintro w' ⟨s0, s1⟩
                                        go_simp
                                        with_reducible rfl
                                      rotate_left
                                      · simp only [Act.put, List.setIfInBounds_toArray, List.set_cons_zero, List.set_cons_succ, i64_w, i32_w]
                                        rfl
                                      refine one_ (i := 5) (N := some 65) #[true, true, true, true, true, true, false, true, true, true, true, true, true, false] rfl rfl (one_of HT_.out (by kernel_rfl)) (by decide) (fun K hK => ?_)
                                      refine goes_ Try.func12 (by kernel_rfl) rfl #[.int .i64 (wrap64 (rd l0 0)), .slice A27 y243.length c27] (by rfl) rfl rfl (by (try simp only [List.map_toArray, List.map_cons, List.map_nil]); first | done | rfl | (simp only [List.length_drop, List.length_take]; rfl)) ?_
                                      with_reducible refine (donatusref1_Seal.calls kj11 (wrap64 (rd l0 0)) _ _ y243 t249 _ ?side1 ?side2 A22.out).mono ?_
                                      (case side1 => repeat (first | exact (Kd.V_reads' HO247.out).2.2 | (with_reducible refine Kd.C_alloc ?_ _) | (with_reducible refine Kd.C_drewN ?_ _) | (with_reducible refine Kd.C_drew ?_)))
                                      (case side2 => exact (Kd.V_reads' HO247.out).2.1)
                                      rintro e w31 ⟨v250, rfl, ho0, hb⟩
                                      refine ⟨_, rfl, ?_⟩
                                      have n0_ := Aside0.mk (Kd.V_elder' (by (with_reducible repeat (first | apply Kd.V_alloc | apply Kd.V_drewN | apply Kd.V_drew)); first | exact HO_0.out | exact Kd.V_mono HO_0.out (fun _ h_ => by simp only [Kd.own_len] at h_ ⊢; exact h_)) (Kd.R_base ho0) hb)
                                      have n1_ := Aside0.mk (Kd.V_elder' (by (with_reducible repeat (first | apply Kd.V_alloc | apply Kd.V_drewN | apply Kd.V_drew)); first | exact HO247.out | exact Kd.V_mono HO247.out (fun _ h_ => by simp only [Kd.own_len] at h_ ⊢; exact h_)) (Kd.R_base ho0) hb)
                                      have n2_ := Aside0.mk (Kd.V_elder' (by (with_reducible repeat (first | apply Kd.V_alloc | apply Kd.V_drewN | apply Kd.V_drew)); first | exact HO256.out | exact Kd.V_mono HO256.out (fun _ h_ => by simp only [Kd.own_len] at h_ ⊢; exact h_)) (Kd.R_base ho0) hb)
                                      have n3_ := Aside0.mk (Kd.R_lower (Kd.R_newM (M := fun k_ => (w.heap.size ≤ k_)) ho0 (below_size (by repeat (first | (with_reducible first | exact HB.out | apply below_alloc | apply pw_below_drewN | apply below_drew1) | exact HB.out))) (fun k_ h_ => h_)) (below_size (by repeat (first | (with_reducible first | exact HB.out | apply below_alloc | apply pw_below_drewN | apply below_drew1) | exact HB.out))))
                                      have n4_ := Aside0.mk (below_step (by repeat (first | (with_reducible first | exact HB.out | apply below_alloc | apply pw_below_drewN | apply below_drew1) | exact HB.out)) hb)
                                      clear HO_0
                                      clear HO247
                                      clear HO256
                                      clear HB
                                      have HO_0 := n0_
                                      have HO247 := n1_
                                      have HO256 := n2_
                                      have HO251 := n3_
                                      have HB := n4_
                                      clear n0_ n1_ n2_ n3_ n4_
                                      (try clear hb)
                                      (try clear hb2)
                                      (try clear hk)
                                      (try clear hi)
                                      (try clear ho0)
                                      refine hK.out _ _ ⟨(by obtain ⟨ad_, e_, h_⟩ := Kd.at_int (Kd.V_reads' HO_0.out).2.2 (0 : Int) (of_eq_true p248) (of_eq_true q248); cases e_ <;> (first | exact h_ | ((try rw [show ((0 : Int)).toNat = 0 from rfl] at h_); (try rw [Addr.add_zero'] at h_); exact h_) | (simp only [Go.Addr.add, ↓reduceIte] at h_; exact h_))), (Kd.V_string_as Try.underlying22 Try.underlying5 Try.underlying9 (by (with_reducible repeat (first | apply Kd.V_alloc | apply Kd.V_drewN | apply Kd.V_drew)); exact HO256.out))⟩ (fun hHeld => ?_)
                                      clear hK K
                                      refine norm_ (a' := ?_) ?_ ?_
                                      rotate_left
                                      · show Act.put _ (some 65) _ = _
                                        simp only [Act.put, List.setIfInBounds_toArray, List.set_cons_zero, List.set_cons_succ, i64_w, i32_w]
                                        rfl
                                      refine one_ (i := 6) (N := some 66) #[true, true, true, true, true, true, true, true, true, true, true, true, true, false] rfl rfl (one_of HT_.out (by kernel_rfl)) (by decide) (fun K hK => ?_)
                                      have hcv32 := own_string (P := Try.prog) Try.underlying22 Try.underlying5 Try.underlying9 (Kd.own_of_R HO251.out)
                                      refine value_ (w1 := ?_) (v := ?_) (by rfl) rfl ?_ ?_
                                      rotate_left 2
                                      · go_simp
                                        constructor
                                        · rfl
                                        · rfl
                                      clear hcv32
                                      refine hK.out _ _ ⟨(by obtain ⟨ad_, e_, h_⟩ := Kd.at_int (Kd.V_reads' HO_0.out).2.2 (0 : Int) (of_eq_true p248) (of_eq_true q248); cases e_ <;> (first | exact h_ | ((try rw [show ((0 : Int)).toNat = 0 from rfl] at h_); (try rw [Addr.add_zero'] at h_); exact h_) | (simp only [Go.Addr.add, ↓reduceIte] at h_; exact h_))), (Kd.V_string_as Try.underlying22 Try.underlying5 Try.underlying9 (by (with_reducible repeat (first | apply Kd.V_alloc | apply Kd.V_drewN | apply Kd.V_drew)); exact HO256.out))⟩ (fun hHeld => ?_)
                                      clear hK K
                                      refine norm_ (a' := ?_) ?_ ?_
                                      rotate_left
                                      · show Act.put _ (some 66) _ = _
                                        simp only [Act.put, List.setIfInBounds_toArray, List.set_cons_zero, List.set_cons_succ, i64_w, i32_w]
                                        rfl
                                      refine pure_ (i := 13) (N := some 73) (v := ?_) (a' := ?_) #[true, true, true, true, true, true, true, true, true, true, true, true, true, true] rfl rfl (any_of HT_.out (by kernel_rfl)) (fun _ _ _ h => h) (Or.inl ⟨by rfl, ?_⟩) ?_ ?_
                                      rotate_left
                                      · intro w'
                                        go_simp
                                        with_reducible rfl
                                      rotate_left
                                      · simp only [Act.put, List.setIfInBounds_toArray, List.set_cons_zero, List.set_cons_succ, i64_w, i32_w]
                                        rfl
                                      refine done_ (done_of HT_.out (by kernel_rfl)) ?_
                                      have p257 : 0 ≤ (0 : Int) := (by omega)
                                      have q257 : 0 < (l0.length : Int) := of_decide_eq_true (by first | (with_reducible assumption) | assumption)
                                      obtain ⟨ad257, e257, hx257_0⟩ := Kd.at_int (Kd.V_reads' HO_0.out).2.2 0 p257 q257
                                      obtain rfl : ad234 = ad257 := (by injection e257)
                                      have qi257 : (0 < l0.length) = True := eq_true (by omega)
                                      (try rw [show ((0 : Int)).toNat = 0 from rfl] at hx257_0)
                                      (try rw [Addr.add_zero'] at hx257_0)
                                      replace p257 := eq_true p257
                                      replace q257 := eq_true q257
                                      try go_wp2
                                      refine bodyPost_ret (results_list (rs := [.tmp 2, .tmp 3, .tmp 4, .tmp 5]) rfl (by simp) (.tmp (.tmp (.tmp (.tmp .nil))))) rfl ?_
                                      exact ⟨_, by first | rfl | (simp [errW_none, errW_some] <;> rfl) | (simp only [← hji17, ← hji23]; first | rfl | (simp [errW_none, errW_some] <;> rfl)) | (simp [*, errW_none, errW_some] <;> rfl), by (with_reducible repeat (first | apply Kd.V_alloc | apply Kd.V_drewN | apply Kd.V_drew)); first | exact Kd.V_mono HO247.out (fun _ hk => hk.1) | exact Kd.V_mono (Kd.V_mono HO247.out (fun _ hk => hk.1)) (fun _ h_ => by simp only [Kd.own_len] at h_ ⊢; exact h_), by repeat (first | (with_reducible first | exact HB.out | apply below_alloc | apply pw_below_drewN | apply below_drew1) | exact HB.out)⟩
                                    · rw [if_neg c26] at H
                                      have c26b0 : ((strOfNums t249).toList == (strOfNums y252).toList) = false := beq_eq_false_iff_ne.mpr c26
                                      have c26b1 : ((strOfNums t249).toList != (strOfNums y252).toList) = true := bne_iff_ne.mpr c26
                                      simp only [Option.some.injEq, Prod.mk.injEq] at H
                                      obtain ⟨rfl, rfl, rfl, rfl⟩ := H
                                      have q33 : ((ji23) : Int) ≤ ((l0.length : Int) : Int) := of_decide_eq_true (by first | (with_reducible assumption) | assumption)
                                      obtain ⟨i033, hi033, _, hsz33, _⟩ := info_parts info5
                                      have hroom33 : l0.length ≤ c0 := (Kd.V_reads' HO_0.out).2.1
                                      have hC33 : Kd.F (Kd.int .u8) _ _ (some ad234) l0.length l0 := (Kd.V_at (base := w.heap.size) HO_0.out).2.2
                                      have ql33 : ((ji17) : Int) ≤ ((ji23) : Int) := of_decide_eq_true (by first | (with_reducible assumption) | assumption)
                                      have q033 : (0 : Int) ≤ ((ji17) : Int) := of_decide_eq_true (by first | (with_reducible assumption) | assumption)
                                      have hcut33 := cut_mid (P := Try.prog) 22 5 .i64 .i64 Try.underlying22 hi033 1 hsz33 (some ad234) l0.length c0 (ji17) (ji23) q033 ql33 q33 hroom33
                                      have hr33 := Kd.F_mid (lo := ((ji17) : Int).toNat) (hi := ((ji23) : Int).toNat) (c := c0) hC33 (by omega) (by omega) hroom33
                                      obtain ⟨A33, hA33⟩ : ∃ A1, A1 = (if c0 = ((ji17) : Int).toNat then (some ad234) else ((some ad234) : Option Addr).map (·.add (((ji17) : Int).toNat * 1))) := ⟨_, rfl⟩
                                      obtain ⟨c33, hc33⟩ : ∃ c1, c1 = c0 - ((ji17) : Int).toNat := ⟨_, rfl⟩
                                      have hy33 : y243.length = ((ji23) : Int).toNat - ((ji17) : Int).toNat := (by rw [Ny243.out, List.length_drop, List.length_take] <;> omega)
                                      rw [show ((l0).take ((ji23) : Int).toNat).drop ((ji17) : Int).toNat = y243 from Ny243.out.symm] at hr33
                                      replace hr33 : Kd.F (Kd.int .u8) _ _ A33 y243.length y243 := (by rw [hA33]; exact hr33)
                                      rw [← hy33, ← hA33, ← hc33] at hcut33
                                      have HO247 := Aside0.mk (show Kd.V (Kd.int .u8) 5 _ w.heap.size _ (.slice A33 y243.length c33) y243 from Kd.V_mk (by rw [hy33, hc33]; exact Nat.sub_le_sub_right (Nat.le_trans (by omega) hroom33) _) hr33)
                                      have HC247 := Aside0.mk (show y243.length ≤ c33 from by rw [hy33, hc33]; exact Nat.sub_le_sub_right (Nat.le_trans (by omega) hroom33) _)
                                      clear hr33 hC33 hroom33 hi033 hsz33 hc33
                                      have KY33 := Aside0.mk hy33
                                      have KA33 := Aside0.mk hA33
                                      clear hy33 hA33
                                      replace q33 := eq_true q33
                                      try go_wp2
                                      have n0_ := Aside0.mk (Kd.V_drew HO_0.out)
                                      have n1_ := Aside0.mk (Kd.V_drew HO247.out)
                                      have n2_ := Aside0.mk (below_drew1 HB.out)
                                      clear HO_0
                                      clear HO247
                                      clear HB
                                      have HO_0 := n0_
                                      have HO247 := n1_
                                      have HB := n2_
                                      clear n0_ n1_ n2_
                                      have p248 : 0 ≤ (0 : Int) := (by omega)
                                      have q248 : 0 < (l0.length : Int) := of_decide_eq_true (by first | (with_reducible assumption) | assumption)
                                      obtain ⟨ad248, e248, hx248_0⟩ := Kd.at_int (Kd.V_reads' HO_0.out).2.2 0 p248 q248
                                      obtain rfl : ad234 = ad248 := (by injection e248)
                                      have qi248 : (0 < l0.length) = True := eq_true (by omega)
                                      (try rw [show ((0 : Int)).toNat = 0 from rfl] at hx248_0)
                                      (try rw [Addr.add_zero'] at hx248_0)
                                      replace p248 := eq_true p248
                                      replace q248 := eq_true q248
                                      have q35 : ((ji23) : Int) ≤ ((l0.length : Int) : Int) := of_decide_eq_true (by first | (with_reducible assumption) | assumption)
                                      obtain ⟨i035, hi035, _, hsz35, _⟩ := info_parts info5
                                      have hroom35 : l0.length ≤ c0 := (Kd.V_reads' HO_0.out).2.1
                                      have hC35 : Kd.F (Kd.int .u8) _ _ (some ad234) l0.length l0 := (Kd.V_at (base := w.heap.size) HO_0.out).2.2
                                      have hcut35 := cut_to (P := Try.prog) 22 5 .i64 Try.underlying22 hi035 (some ad234) l0.length c0 (ji23) (of_decide_eq_true (by first | (with_reducible assumption) | assumption)) q35 hroom35
                                      have hr35 := Kd.F_take (m := ((ji23) : Int).toNat) hC35 (by omega)
                                      have hy35 : y252.length = ((ji23) : Int).toNat := (by rw [Ny252.out, List.length_take]; omega)
                                      rw [← Ny252.out] at hr35
                                      rw [← hy35] at hcut35
                                      have HO256 := Aside0.mk (show Kd.V (Kd.int .u8) 5 _ w.heap.size _ (.slice (some ad234) y252.length c0) y252 from Kd.V_mk (by omega) hr35)
                                      have HC256 := Aside0.mk (show y252.length ≤ c0 from by omega)
                                      clear hr35 hC35 hroom35 hi035 hsz35
                                      have KY35 := Aside0.mk hy35
                                      clear hy35
                                      replace q35 := eq_true q35
                                      refine start_ (n := 14) (S := fun w' => w'.cell? ad234 = some (.int .u8 (rd l0 0)) ∧ (∀ k_, k_ = y252.length → (convert 22 9 (.slice (some ad234) k_ c0)).run Try.prog w' = .ok (.string (strOfNums y252)) w')) (ds := []) #[false, false, false, false, false, false, false, false, false, false, false, false, false, false] (by kernel_rfl) rfl rfl ⟨(by obtain ⟨ad_, e_, h_⟩ := Kd.at_int (Kd.V_reads' HO_0.out).2.2 (0 : Int) (of_eq_true p248) (of_eq_true q248); cases e_ <;> (first | exact h_ | ((try rw [show ((0 : Int)).toNat = 0 from rfl] at h_); (try rw [Addr.add_zero'] at h_); exact h_) | (simp only [Go.Addr.add, ↓reduceIte] at h_; exact h_))), (Kd.V_string_as Try.underlying22 Try.underlying5 Try.underlying9 (by (with_reducible repeat (first | apply Kd.V_alloc | apply Kd.V_drewN | apply Kd.V_drew)); exact HO256.out))⟩ (fun hHeld => ?_); refine with_tabW donatusref1_Open.tab16 donatusref1_Open.bits16 (fun HT_ HW_ => ?_)
                                      generalize wc.drew = w34 at HO_0 HO247 HB HO256 hx248_0 hHeld ⊢
                                      refine pure_ (i := 0) (N := some 60) (v := ?_) (a' := ?_) #[true, false, false, false, false, false, false, false, false, false, false, false, false, false] rfl rfl (any_of HT_.out (by kernel_rfl)) (fun _ _ _ h => h) (Or.inl ⟨by rfl, ?_⟩) ?_ ?_
                                      rotate_left
                                      · intro w'
                                        go_simp
                                        with_reducible rfl
                                      rotate_left
                                      · simp only [Act.put, List.setIfInBounds_toArray, List.set_cons_zero, List.set_cons_succ, i64_w, i32_w]
                                        rfl
                                      refine pure_ (i := 1) (N := some 61) (v := ?_) (a' := ?_) #[true, true, false, false, false, false, false, false, false, false, false, false, false, false] rfl rfl (any_of HT_.out (by kernel_rfl)) (fun _ _ _ h => h) (Or.inl ⟨by rfl, ?_⟩) ?_ ?_
                                      rotate_left
                                      · intro w'
                                        go_simp
                                        with_reducible rfl
                                      rotate_left
                                      · simp only [Act.put, List.setIfInBounds_toArray, List.set_cons_zero, List.set_cons_succ, i64_w, i32_w]
                                        rfl
                                      refine pure_ (i := 4) (N := some 64) (v := ?_) (a' := ?_) #[true, true, false, false, true, false, false, false, false, false, false, false, false, false] rfl rfl (any_of HT_.out (by kernel_rfl)) (fun _ _ _ h => h) (Or.inl ⟨by rfl, ?_⟩) ?_ ?_
                                      rotate_left
                                      · intro w'
                                        go_simp
                                        with_reducible rfl
                                      rotate_left
                                      · simp only [Act.put, List.setIfInBounds_toArray, List.set_cons_zero, List.set_cons_succ, i64_w, i32_w]
                                        rfl
                                      refine pure_ (i := 7) (N := some 67) (v := ?_) (a' := ?_) #[true, true, false, false, true, false, false, true, false, false, false, false, false, false] rfl rfl (any_of HT_.out (by kernel_rfl)) (fun _ _ _ h => h) (Or.inl ⟨by rfl, ?_⟩) ?_ ?_
                                      rotate_left
                                      · intro w'
                                        go_simp
                                        with_reducible rfl
                                      rotate_left
                                      · simp only [Act.put, List.setIfInBounds_toArray, List.set_cons_zero, List.set_cons_succ, i64_w, i32_w]
                                        rfl
                                      refine pure_ (i := 8) (N := some 68) (v := ?_) (a' := ?_) #[true, true, false, false, true, false, false, true, true, false, false, false, false, false] rfl rfl (any_of HT_.out (by kernel_rfl)) (fun _ _ _ h => h) (Or.inl ⟨by rfl, ?_⟩) ?_ ?_
                                      rotate_left
                                      · intro w'
                                        go_simp
                                        with_reducible rfl
                                      rotate_left
                                      · simp only [Act.put, List.setIfInBounds_toArray, List.set_cons_zero, List.set_cons_succ, i64_w, i32_w]
                                        rfl
                                      refine pure_ (i := 9) (N := some 69) (v := ?_) (a' := ?_) #[true, true, false, false, true, false, false, true, true, true, false, false, false, false] rfl rfl (any_of HT_.out (by kernel_rfl)) (fun _ _ _ h => h) (Or.inl ⟨by rfl, ?_⟩) ?_ ?_
                                      rotate_left
                                      · intro w'
                                        go_simp
                                        with_reducible rfl
                                      rotate_left
                                      · simp only [Act.put, List.setIfInBounds_toArray, List.set_cons_zero, List.set_cons_succ, i64_w, i32_w]
                                        rfl
                                      refine pure_ (i := 10) (N := some 70) (v := ?_) (a' := ?_) #[true, true, false, false, true, false, false, true, true, true, true, false, false, false] rfl rfl (any_of HT_.out (by kernel_rfl)) (fun _ _ _ h => h) (Or.inl ⟨by rfl, ?_⟩) ?_ ?_
                                      rotate_left
                                      · intro w'
                                        go_simp
                                        with_reducible rfl
                                      rotate_left
                                      · simp only [Act.put, List.setIfInBounds_toArray, List.set_cons_zero, List.set_cons_succ, i64_w, i32_w]
                                        rfl
                                      refine pure_ (i := 11) (N := some 71) (v := ?_) (a' := ?_) #[true, true, false, false, true, false, false, true, true, true, true, true, false, false] rfl rfl (any_of HT_.out (by kernel_rfl)) (fun _ _ _ h => h) (Or.inl ⟨by rfl, ?_⟩) ?_ ?_
                                      rotate_left
                                      · intro w'
                                        go_simp
                                        with_reducible rfl
                                      rotate_left
                                      · simp only [Act.put, List.setIfInBounds_toArray, List.set_cons_zero, List.set_cons_succ, i64_w, i32_w]
                                        rfl
                                      refine take_ (i := 2) (N := some 62) (v := ?_) (a' := ?_) #[true, true, true, false, true, false, false, true, true, true, true, true, false, false] rfl rfl (take_ofW HT_.out HW_.out (by kernel_rfl)) (fun _ _ _ h => h) (Or.inl ⟨by rfl, ?_⟩) hHeld ?_ ?_
                                      rotate_left
                                      · rintro w' ⟨s0, s1⟩
                                        go_simp
                                        with_reducible rfl
                                      rotate_left
                                      · simp only [Act.put, List.setIfInBounds_toArray, List.set_cons_zero, List.set_cons_succ, i64_w, i32_w]
                                        rfl
                                      refine pure_ (i := 3) (N := some 63) (v := ?_) (a' := ?_) #[true, true, true, true, true, false, false, true, true, true, true, true, false, false] rfl rfl (any_of HT_.out (by kernel_rfl)) (fun _ _ _ h => h) (Or.inl ⟨by rfl, ?_⟩) ?_ ?_
                                      rotate_left
                                      · intro w'
                                        go_simp
                                        with_reducible rfl
                                      rotate_left
                                      · simp only [Act.put, List.setIfInBounds_toArray, List.set_cons_zero, List.set_cons_succ, i64_w, i32_w]
                                        rfl
                                      refine take_ (i := 12) (N := some 72) (v := ?_) (a' := ?_) #[true, true, true, true, true, false, false, true, true, true, true, true, true, false] rfl rfl (take_ofW HT_.out HW_.out (by kernel_rfl)) (fun _ _ _ h => h) (Or.inl ⟨by rfl, ?_⟩) hHeld ?_ ?_
                                      rotate_left
                                      · rintro w' ⟨s0, s1⟩
                                        go_simp
                                        with_reducible rfl
                                      rotate_left
                                      · simp only [Act.put, List.setIfInBounds_toArray, List.set_cons_zero, List.set_cons_succ, i64_w, i32_w]
                                        rfl
                                      refine one_ (i := 5) (N := some 65) #[true, true, true, true, true, true, false, true, true, true, true, true, true, false] rfl rfl (one_of HT_.out (by kernel_rfl)) (by decide) (fun K hK => ?_)
                                      refine goes_ Try.func12 (by kernel_rfl) rfl #[.int .i64 (wrap64 (rd l0 0)), .slice A33 y243.length c33] (by rfl) rfl rfl (by (try simp only [List.map_toArray, List.map_cons, List.map_nil]); first | done | rfl | (simp only [List.length_drop, List.length_take]; rfl)) ?_
                                      with_reducible refine (donatusref1_Seal.calls kj11 (wrap64 (rd l0 0)) _ _ y243 t249 _ ?side1 ?side2 A22.out).mono ?_
                                      (case side1 => repeat (first | exact (Kd.V_reads' HO247.out).2.2 | (with_reducible refine Kd.C_alloc ?_ _) | (with_reducible refine Kd.C_drewN ?_ _) | (with_reducible refine Kd.C_drew ?_)))
                                      (case side2 => exact (Kd.V_reads' HO247.out).2.1)
                                      rintro e w37 ⟨v250, rfl, ho0, hb⟩
                                      refine ⟨_, rfl, ?_⟩
                                      have n0_ := Aside0.mk (Kd.V_elder' (by (with_reducible repeat (first | apply Kd.V_alloc | apply Kd.V_drewN | apply Kd.V_drew)); first | exact HO_0.out | exact Kd.V_mono HO_0.out (fun _ h_ => by simp only [Kd.own_len] at h_ ⊢; exact h_)) (Kd.R_base ho0) hb)
                                      have n1_ := Aside0.mk (Kd.V_elder' (by (with_reducible repeat (first | apply Kd.V_alloc | apply Kd.V_drewN | apply Kd.V_drew)); first | exact HO247.out | exact Kd.V_mono HO247.out (fun _ h_ => by simp only [Kd.own_len] at h_ ⊢; exact h_)) (Kd.R_base ho0) hb)
                                      have n2_ := Aside0.mk (Kd.V_elder' (by (with_reducible repeat (first | apply Kd.V_alloc | apply Kd.V_drewN | apply Kd.V_drew)); first | exact HO256.out | exact Kd.V_mono HO256.out (fun _ h_ => by simp only [Kd.own_len] at h_ ⊢; exact h_)) (Kd.R_base ho0) hb)
                                      have n3_ := Aside0.mk (Kd.R_lower (Kd.R_newM (M := fun k_ => (w.heap.size ≤ k_)) ho0 (below_size (by repeat (first | (with_reducible first | exact HB.out | apply below_alloc | apply pw_below_drewN | apply below_drew1) | exact HB.out))) (fun k_ h_ => h_)) (below_size (by repeat (first | (with_reducible first | exact HB.out | apply below_alloc | apply pw_below_drewN | apply below_drew1) | exact HB.out))))
                                      have n4_ := Aside0.mk (below_step (by repeat (first | (with_reducible first | exact HB.out | apply below_alloc | apply pw_below_drewN | apply below_drew1) | exact HB.out)) hb)
                                      clear HO_0
                                      clear HO247
                                      clear HO256
                                      clear HB
                                      have HO_0 := n0_
                                      have HO247 := n1_
                                      have HO256 := n2_
                                      have HO251 := n3_
                                      have HB := n4_
                                      clear n0_ n1_ n2_ n3_ n4_
                                      (try clear hb)
                                      (try clear hb2)
                                      (try clear hk)
                                      (try clear hi)
                                      (try clear ho0)
                                      refine hK.out _ _ ⟨(by obtain ⟨ad_, e_, h_⟩ := Kd.at_int (Kd.V_reads' HO_0.out).2.2 (0 : Int) (of_eq_true p248) (of_eq_true q248); cases e_ <;> (first | exact h_ | ((try rw [show ((0 : Int)).toNat = 0 from rfl] at h_); (try rw [Addr.add_zero'] at h_); exact h_) | (simp only [Go.Addr.add, ↓reduceIte] at h_; exact h_))), (Kd.V_string_as Try.underlying22 Try.underlying5 Try.underlying9 (by (with_reducible repeat (first | apply Kd.V_alloc | apply Kd.V_drewN | apply Kd.V_drew)); exact HO256.out))⟩ (fun hHeld => ?_)
                                      clear hK K
                                      refine norm_ (a' := ?_) ?_ ?_
                                      rotate_left
                                      · show Act.put _ (some 65) _ = _
                                        simp only [Act.put, List.setIfInBounds_toArray, List.set_cons_zero, List.set_cons_succ, i64_w, i32_w]
                                        rfl
                                      refine one_ (i := 6) (N := some 66) #[true, true, true, true, true, true, true, true, true, true, true, true, true, false] rfl rfl (one_of HT_.out (by kernel_rfl)) (by decide) (fun K hK => ?_)
                                      have hcv38 := own_string (P := Try.prog) Try.underlying22 Try.underlying5 Try.underlying9 (Kd.own_of_R HO251.out)
                                      refine value_ (w1 := ?_) (v := ?_) (by rfl) rfl ?_ ?_
                                      rotate_left 2
                                      · go_simp
                                        constructor
                                        · rfl
                                        · rfl
                                      clear hcv38
                                      refine hK.out _ _ ⟨(by obtain ⟨ad_, e_, h_⟩ := Kd.at_int (Kd.V_reads' HO_0.out).2.2 (0 : Int) (of_eq_true p248) (of_eq_true q248); cases e_ <;> (first | exact h_ | ((try rw [show ((0 : Int)).toNat = 0 from rfl] at h_); (try rw [Addr.add_zero'] at h_); exact h_) | (simp only [Go.Addr.add, ↓reduceIte] at h_; exact h_))), (Kd.V_string_as Try.underlying22 Try.underlying5 Try.underlying9 (by (with_reducible repeat (first | apply Kd.V_alloc | apply Kd.V_drewN | apply Kd.V_drew)); exact HO256.out))⟩ (fun hHeld => ?_)
                                      clear hK K
                                      refine norm_ (a' := ?_) ?_ ?_
                                      rotate_left
                                      · show Act.put _ (some 66) _ = _
                                        simp only [Act.put, List.setIfInBounds_toArray, List.set_cons_zero, List.set_cons_succ, i64_w, i32_w]
                                        rfl
                                      refine pure_ (i := 13) (N := some 73) (v := ?_) (a' := ?_) #[true, true, true, true, true, true, true, true, true, true, true, true, true, true] rfl rfl (any_of HT_.out (by kernel_rfl)) (fun _ _ _ h => h) (Or.inl ⟨by rfl, ?_⟩) ?_ ?_
                                      rotate_left
                                      · intro w'
                                        go_simp
                                        with_reducible rfl
                                      rotate_left
                                      · simp only [Act.put, List.setIfInBounds_toArray, List.set_cons_zero, List.set_cons_succ, i64_w, i32_w]
                                        rfl
                                      refine done_ (done_of HT_.out (by kernel_rfl)) ?_
                                      try go_wp2
                                      refine bodyPost_ret (results_list (rs := [.tmp 2, .tmp 3, .tmp 4, .tmp 5]) rfl (by simp) (.tmp (.tmp (.tmp (.tmp .nil))))) rfl ?_
                                      exact ⟨_, by first | rfl | (simp [errW_none, errW_some] <;> rfl) | (simp only [← hji17, ← hji23]; first | rfl | (simp [errW_none, errW_some] <;> rfl)) | (simp [*, errW_none, errW_some] <;> rfl), Kd.V_nil _ _ _ _ _, by repeat (first | (with_reducible first | exact HB.out | apply below_alloc | apply pw_below_drewN | apply below_drew1) | exact HB.out)⟩
                                  · rw [if_neg c24] at H
                                    exact absurd H (by simp)
                                · rw [if_neg c21] at H
                                  exact absurd H (by simp)
                              · rw [if_neg c20] at H
                                exact absurd H (by simp)
                            · rw [if_neg c19] at H
                              exact absurd H (by simp)
                          · rw [if_neg c18] at H
                            exact absurd H (by simp)
        · rw [if_neg c5] at H
          exact absurd H (by simp)
    · rw [if_neg c3] at H
      exact absurd H (by simp)

end Go.Proofs.Ytjnhlbelpflobab.PFrameAll
