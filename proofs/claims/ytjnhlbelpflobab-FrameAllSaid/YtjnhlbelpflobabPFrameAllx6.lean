-- Written for this claim by a program of this seat (a turned copy of the printer)
import Derived.Test.YtjnhlbelpflobabPFrameAllx0
import Derived.Test.YtjnhlbelpflobabPFrameAllx3
import Derived.Test.YtjnhlbelpflobabPFrameAllx4
import Derived.Test.YtjnhlbelpflobabPFrameAllx5
namespace Go.Proofs.Ytjnhlbelpflobab.PFrameAll
open Go.RowKit Go.Proofs.YtjnhlbelpflobabW.PrintWords Go.Proofs.YtjnhlbelpflobabW.PrintLast Go.Proofs.YtjnhlbelpflobabW.PrintMore
attribute [local go_sem] max2_int min2_int max_two min_two max_three min_three max_four min_four   -- for this text's walks alone
set_option linter.unusedVariables false
set_option linter.unusedSimpArgs false

/-! ### donatuslaw16_FrameAll: function 5 -/
mutual
def donatuslaw16_FrameAll.l0 : Nat → List (List Int) → List Int → List Int → List Int → Int → Int → Option (Bool)
  | 0, _, _, _, _, _, _ => none
  | k + 1, x0, x1, x2, x8, x9, x10 => if x10 < (x0.length : Int) then (if x10 < (x1.length : Int) then (donatuslaw16_FrameAll.j1 k x0 x1 x2 x8 x9 x10 (decide (x10 < 10))) else (donatuslaw16_FrameAll.j1 k x0 x1 x2 x8 x9 x10 false)) else (donatuslaw16_FrameAll.j1 k x0 x1 x2 x8 x9 x10 false)
def donatuslaw16_FrameAll.j1 : Nat → List (List Int) → List Int → List Int → List Int → Int → Int → Bool → Option (Bool)
  | 0, _, _, _, _, _, _, _ => none
  | k + 1, x0, x1, x2, x8, x9, x10, x36 => if x36 = true then (if 0 ≤ x10 then (if x10 < (x1.length : Int) then (if x10 < (x0.length : Int) then ((donatuslaw1_Short.f (rd_L2 x0 x10) 100).bind fun t261 => ((donatusref1_Seal.f k (wrap64 (1 + (Int.tmod (wrap64 ((Int.tmod (rd x1 x10) 255) + 255)) 255))) t261).bind fun t264 => (if x8.length + t264.length < 140737488355328 then (donatuslaw16_FrameAll.l0 k x0 x1 x2 (x8 ++ t264) (wrap64 (x9 + 1)) (wrap64 (x10 + 1))) else (none)))) else (none)) else (none)) else (none)) else ((donatuslaw1_Short.f x2 20).bind fun t270 => (if x8.length + t270.length < 140737488355328 then ((some (x8 ++ t270 : List Int)).bind fun y273 => ((frame_All.f k y273).bind fun bt276 => (if (bt276.1.length : Int) < x9 then (none) else (donatuslaw16_FrameAll.l1 k x0 x1 y273 x9 (x8.length : Int) bt276.1 bt276.2 0)))) else (none)))
def donatuslaw16_FrameAll.l1 : Nat → List (List Int) → List Int → List Int → Int → Int → List (S38) → Int → Int → Option (Bool)
  | 0, _, _, _, _, _, _, _, _ => none
  | k + 1, x0, x1, x8, x9, x12, x13, x14, x15 => if x15 < x9 then (if 0 ≤ x15 then (if x15 < (x13.length : Int) then (if x15 < (x1.length : Int) then (if ((rd_T38 x13 x15).f0) = (wrap64 (1 + (Int.tmod (wrap64 ((Int.tmod (rd x1 x15) 255) + 255)) 255))) then (if x15 < (x0.length : Int) then ((donatuslaw1_Short.f (rd_L2 x0 x15) 100).bind fun t284 => (if (strOfNums ((rd_T38 x13 x15).f1)).toList = (strOfNums t284).toList then (donatuslaw16_FrameAll.l1 k x0 x1 x8 x9 x12 x13 x14 (wrap64 (x15 + 1))) else (none))) else (none)) else (none)) else (none)) else (none)) else (none)) else (if 0 ≤ x12 then (if x12 ≤ (x8.length : Int) then ((donatusref1_Open.f k (x8.drop (x12 : Int).toNat)).bind fun bt291 => (if (x13.length : Int) > x9 then (if bt291.2.2.2 = 0 then (if x14 ≥ (wrap64 (x12 + bt291.2.2.1)) then (some true) else (if (x13.length : Int) = x9 then (if x14 = x12 then (some (bt291.2.2.2 != 0)) else (none)) else (none))) else (if (x13.length : Int) = x9 then (if x14 = x12 then (some (bt291.2.2.2 != 0)) else (none)) else (none))) else (if (x13.length : Int) = x9 then (if x14 = x12 then (some (bt291.2.2.2 != 0)) else (none)) else (none)))) else (none)) else (none))
end
def donatuslaw16_FrameAll.f (k : Nat) (l0 : List (List Int)) (l1 : List Int) (l2 : List Int) : Option (Bool) := (donatuslaw16_begun.f k).bind fun t258 => (if t258 = true then (donatuslaw16_FrameAll.l0 k l0 l1 l2 ([] : List Int) 0 0) else (none))
theorem donatuslaw16_FrameAll.mono_l : ∀ k, (∀ y0 y1 y2 y3 y4 y5, LeO (donatuslaw16_FrameAll.l0 k y0 y1 y2 y3 y4 y5) (donatuslaw16_FrameAll.l0 (k + 1) y0 y1 y2 y3 y4 y5)) ∧ (∀ y0 y1 y2 y3 y4 y5 y6, LeO (donatuslaw16_FrameAll.j1 k y0 y1 y2 y3 y4 y5 y6) (donatuslaw16_FrameAll.j1 (k + 1) y0 y1 y2 y3 y4 y5 y6)) ∧ (∀ y0 y1 y2 y3 y4 y5 y6 y7, LeO (donatuslaw16_FrameAll.l1 k y0 y1 y2 y3 y4 y5 y6 y7) (donatuslaw16_FrameAll.l1 (k + 1) y0 y1 y2 y3 y4 y5 y6 y7))
  | 0 => ⟨fun _ _ _ _ _ _ r h => by simp [donatuslaw16_FrameAll.l0] at h, fun _ _ _ _ _ _ _ r h => by simp [donatuslaw16_FrameAll.j1] at h, fun _ _ _ _ _ _ _ _ r h => by simp [donatuslaw16_FrameAll.l1] at h⟩
  | k + 1 => by
    obtain ⟨ih0, ih1, ih2⟩ := donatuslaw16_FrameAll.mono_l k
    refine ⟨?_, ?_, ?_⟩
    · intro y0 y1 y2 y3 y4 y5
      unfold donatuslaw16_FrameAll.l0
      repeat' first
      | (with_reducible exact ih0 _ _ _ _ _ _)
      | (with_reducible exact ih1 _ _ _ _ _ _ _)
      | (with_reducible exact ih2 _ _ _ _ _ _ _ _)
      | (with_reducible exact donatuslaw16_begun.mono _)
      | (with_reducible exact donatusref1_Open.mono _ _)
      | (with_reducible exact donatusref1_Seal.mono _ _ _)
      | (with_reducible exact frame_All.mono _ _)
      | (with_reducible exact LeO.refl _)
      | (with_reducible exact LeO.none _)
      | (with_reducible refine LeO.ite ?_ ?_)
      | (with_reducible refine LeO.bind ?_ (fun _ => ?_))
      | exact ih0 _ _ _ _ _ _
      | exact ih1 _ _ _ _ _ _ _
      | exact ih2 _ _ _ _ _ _ _ _
      | exact donatuslaw16_begun.mono _
      | exact donatusref1_Open.mono _ _
      | exact donatusref1_Seal.mono _ _ _
      | exact frame_All.mono _ _
      | exact LeO.none _
      | refine LeO.ite ?_ ?_
      | refine LeO.bind ?_ (fun _ => ?_)
    · intro y0 y1 y2 y3 y4 y5 y6
      unfold donatuslaw16_FrameAll.j1
      repeat' first
      | (with_reducible exact ih0 _ _ _ _ _ _)
      | (with_reducible exact ih1 _ _ _ _ _ _ _)
      | (with_reducible exact ih2 _ _ _ _ _ _ _ _)
      | (with_reducible exact donatuslaw16_begun.mono _)
      | (with_reducible exact donatusref1_Open.mono _ _)
      | (with_reducible exact donatusref1_Seal.mono _ _ _)
      | (with_reducible exact frame_All.mono _ _)
      | (with_reducible exact LeO.refl _)
      | (with_reducible exact LeO.none _)
      | (with_reducible refine LeO.ite ?_ ?_)
      | (with_reducible refine LeO.bind ?_ (fun _ => ?_))
      | exact ih0 _ _ _ _ _ _
      | exact ih1 _ _ _ _ _ _ _
      | exact ih2 _ _ _ _ _ _ _ _
      | exact donatuslaw16_begun.mono _
      | exact donatusref1_Open.mono _ _
      | exact donatusref1_Seal.mono _ _ _
      | exact frame_All.mono _ _
      | exact LeO.none _
      | refine LeO.ite ?_ ?_
      | refine LeO.bind ?_ (fun _ => ?_)
    · intro y0 y1 y2 y3 y4 y5 y6 y7
      unfold donatuslaw16_FrameAll.l1
      repeat' first
      | (with_reducible exact ih0 _ _ _ _ _ _)
      | (with_reducible exact ih1 _ _ _ _ _ _ _)
      | (with_reducible exact ih2 _ _ _ _ _ _ _ _)
      | (with_reducible exact donatuslaw16_begun.mono _)
      | (with_reducible exact donatusref1_Open.mono _ _)
      | (with_reducible exact donatusref1_Seal.mono _ _ _)
      | (with_reducible exact frame_All.mono _ _)
      | (with_reducible exact LeO.refl _)
      | (with_reducible exact LeO.none _)
      | (with_reducible refine LeO.ite ?_ ?_)
      | (with_reducible refine LeO.bind ?_ (fun _ => ?_))
      | exact ih0 _ _ _ _ _ _
      | exact ih1 _ _ _ _ _ _ _
      | exact ih2 _ _ _ _ _ _ _ _
      | exact donatuslaw16_begun.mono _
      | exact donatusref1_Open.mono _ _
      | exact donatusref1_Seal.mono _ _ _
      | exact frame_All.mono _ _
      | exact LeO.none _
      | refine LeO.ite ?_ ?_
      | refine LeO.bind ?_ (fun _ => ?_)
theorem donatuslaw16_FrameAll.mono : ∀ a0 a1 a2 k, LeO (donatuslaw16_FrameAll.f k a0 a1 a2) (donatuslaw16_FrameAll.f (k + 1) a0 a1 a2) := by
  intro a0 a1 a2 k
  obtain ⟨ih0, ih1, ih2⟩ := donatuslaw16_FrameAll.mono_l k
  unfold donatuslaw16_FrameAll.f
  repeat' first
      | (with_reducible exact ih0 _ _ _ _ _ _)
      | (with_reducible exact ih1 _ _ _ _ _ _ _)
      | (with_reducible exact ih2 _ _ _ _ _ _ _ _)
      | (with_reducible exact donatuslaw16_begun.mono _)
      | (with_reducible exact donatusref1_Open.mono _ _)
      | (with_reducible exact donatusref1_Seal.mono _ _ _)
      | (with_reducible exact frame_All.mono _ _)
      | (with_reducible exact LeO.refl _)
      | (with_reducible exact LeO.none _)
      | (with_reducible refine LeO.ite ?_ ?_)
      | (with_reducible refine LeO.bind ?_ (fun _ => ?_))
      | exact ih0 _ _ _ _ _ _
      | exact ih1 _ _ _ _ _ _ _
      | exact ih2 _ _ _ _ _ _ _ _
      | exact donatuslaw16_begun.mono _
      | exact donatusref1_Open.mono _ _
      | exact donatusref1_Seal.mono _ _ _
      | exact frame_All.mono _ _
      | exact LeO.none _
      | refine LeO.ite ?_ ?_
      | refine LeO.bind ?_ (fun _ => ?_)
def donatuslaw16_FrameAll.T20 : Bool × List (List Nat × List Nat) := (true, [([], []), ([], []), ([0, 1], [0, 1]), ([2], [2]), ([3], [3]), ([], []), ([], []), ([5, 6], [5, 6]), ([7], [7]), ([8], [8]), ([9], [9]), ([10], [10]), ([11], [11]), ([4, 12], [4, 12]), ([13], [13]), ([14], [14]), ([14], [14]), ([15, 16, 14], [14, 15, 16]), ([17, 14], [14, 17]), ([18, 14], [14, 18]), ([19, 14], [14, 19]), ([14], [14]), ([14], [14]), ([21, 22, 14], [14, 21, 22]), ([23, 14], [14, 23]), ([24, 14, 14], [14, 24]), ([25, 14], [14, 25]), ([20, 26, 14], [14, 20, 26]), ([14, 27], [14, 27])])
def donatuslaw16_FrameAll.B20 : List Nat := [0, 0, 3, 7, 15, 0, 0, 96, 224, 480, 992, 2016, 4064, 8191, 16383, 32767, 32767, 131071, 262143, 524287, 1048575, 32767, 32767, 6324223, 14712831, 31490047, 65044479, 134217727, 268435455]
theorem donatuslaw16_FrameAll.tab20 : rtab .any (opsOf Try.f5 20) = donatuslaw16_FrameAll.T20 := by kernel_rfl
theorem donatuslaw16_FrameAll.bits20 : waitsOk donatuslaw16_FrameAll.T20.2 donatuslaw16_FrameAll.B20 = true := by kernel_rfl
set_option maxHeartbeats 8000000 in
set_option maxRecDepth 100000 in
theorem donatuslaw16_FrameAll.calls (k : Nat) (A0 : Option Addr) (c0 : Nat) (l0 : List (List Int)) (A1 : Option Addr) (c1 : Nat) (l1 : List Int) (A2 : Option Addr) (c2 : Nat) (l2 : List Int) (r : Bool) (w : World) (hr0 : Kd.C (Kd.slice 5 (Kd.int .u8)) w A0 l0.length l0) (hc0 : l0.length ≤ c0) (hr1 : Kd.C (Kd.int .i64) w A1 l1.length l1) (hc1 : l1.length ≤ c1) (hr2 : Kd.C (Kd.int .u8) w A2 l2.length l2) (hc2 : l2.length ≤ c2) (h : donatuslaw16_FrameAll.f k l0 l1 l2 = some r) :
    Calls Try.prog 5 #[.slice A0 l0.length c0, .slice A1 l1.length c1, .slice A2 l2.length c2] w fun e w' => e = .returned (.bool r) ∧ Below w.heap.size w w' := by
  have HR0 := Aside0.mk hr0
  have HC0 := Aside0.mk hc0
  clear hr0 hc0
  have HR1 := Aside0.mk hr1
  have HC1 := Aside0.mk hc1
  clear hr1 hc1
  have HR2 := Aside0.mk hr2
  have HC2 := Aside0.mk hc2
  clear hr2 hc2
  have HB := Aside0.mk (Below.refl w.heap.size w)
  have H : ((donatuslaw16_begun.f k).bind fun t258 => (if t258 = true then (donatuslaw16_FrameAll.l0 k l0 l1 l2 ([] : List Int) 0 0) else (none))) = some r := h
  clear h
  replace H := Option.bind_eq_some_iff.mp H
  obtain ⟨t258, A40, H⟩ := H
  replace H : (if t258 = true then (donatuslaw16_FrameAll.l0 k l0 l1 l2 ([] : List Int) 0 0) else (none)) = some r := H
  have A4 := Aside0.mk A40
  clear A40
  by_cases c5 : t258 = true
  · subst c5
    have H1 : (donatuslaw16_FrameAll.l0 k l0 l1 l2 ([] : List Int) 0 0) = some r := by rw [if_pos rfl] at H; exact H
    clear H
    have H := H1
    clear H1
    have H' := Aside0.mk H
    clear H
    go_enter Try.func5, Try.ntmps5
    go_wp2_with (first | ((with_reducible refine gate_callee (f := 9) rfl ?_); refine goesL_ (some 20) rfl rfl Try.func9 (by kernel_rfl) rfl #[] rfl (by (try simp only [List.map_toArray, List.map_cons, List.map_nil]); first | done | rfl | (simp only [List.length_drop, List.length_take]; rfl)) ?_; (with_reducible refine (donatuslaw16_begun.calls k  true _ A4.out).mono ?_); rintro e w6 ⟨rfl, hb⟩; refine ⟨_, rfl, ?_⟩; have n0_ := Aside0.mk (below_step (by repeat (first | (with_reducible first | exact HB.out | apply below_alloc | apply pw_below_drewN | apply below_drew1) | exact HB.out)) hb); clear HB; have HB := n0_; clear n0_; (try clear hb); (try clear hb2); (try clear hk); (try clear hi)))
    go_loopg [8, 9, 10] k (fun kq v8 v9 v10 w' => ∃ (x8_1 : List Int) (x9_1 : Int) (x10_1 : Int), v9 = .int .i64 x9_1 ∧ v10 = .int .i64 x10_1 ∧ Aside0 (donatuslaw16_FrameAll.l0 kq l0 l1 l2 x8_1 x9_1 x10_1 = some r) ∧ Aside0 (kq ≤ k) ∧ Aside0 (Kd.R (Kd.int .u8) 5 w' w.heap.size (fun _ => True) v8 x8_1) ∧ Aside0 (Below w.heap.size w w'))
    case atStart => exact ⟨(([] : List Int)), (0), (0), (by first | rfl | (simp; done) | (simp [*]; done)), (by first | rfl | (simp; done) | (simp [*]; done)), H', ⟨Nat.le_refl _⟩, ⟨by first | exact Kd.R_nil _ _ _ _ _ | exact Kd.N_nil _ _ _ _ _ | exact Kd.V_nil _ _ _ _ _ | exact Kd.Q_nil _ _ _ _ _ | exact Kd.S_nil _ _ _ _ _⟩, ⟨by repeat (first | (with_reducible first | exact HB.out | apply below_alloc | apply pw_below_drewN | apply below_drew1) | exact HB.out)⟩⟩
    case round =>
      clear H'
      try clear c1
      try clear c2
      try clear p2
      try clear c5
      obtain ⟨x8_1, x9_1, x10_1, rfl, rfl, HA, HK1, HO_8, HB⟩ := hrel
      cases gk with
      | zero => exact absurd HA.out (by simp [donatuslaw16_FrameAll.l0])
      | succ k1 =>
        have H := HA.out
        clear HA
        simp only [donatuslaw16_FrameAll.l0] at H
        have HC7 := Aside0.mk H
        clear H
        go_upto_region 7 with (fail)
        go_cut [36] (fun v36 wc => ∃ (kq : Nat) (x36_6 : Bool), v36 = .bool x36_6 ∧ Aside0 (donatuslaw16_FrameAll.j1 kq l0 l1 l2 x8_1 x9_1 x10_1 x36_6 = some r) ∧ Aside0 (kq ≤ k1) ∧ Aside0 (Kd.R (Kd.int .u8) 5 wc w.heap.size (fun _ => True) u8 x8_1) ∧ Aside0 (Below w.heap.size w wc))
        case first =>
          have H := HC7.out
          clear HC7
          by_cases c8 : x10_1 < (l0.length : Int)
          · rw [if_pos c8] at H
            have c8b0 : decide (x10_1 < (l0.length : Int)) = true := decide_eq_true c8
            clear c8
            (first | rw [c8b0] | (simp only [i64_w, i32_w]; rw [c8b0]) | skip)
            by_cases c9 : x10_1 < (l1.length : Int)
            · rw [if_pos c9] at H
              have c9b0 : decide (x10_1 < (l1.length : Int)) = true := decide_eq_true c9
              clear c9
              have H' := Aside0.mk H
              clear H
              go_wp2
              go_meet
              case rel => exact ⟨_, (decide (x10_1 < 10)), (by first | rfl | (simp; done) | (simp [*]; done)), H', ⟨by have := HK1.out; first | omega | exact Nat.le_refl _⟩, ⟨by (with_reducible repeat (first | apply Kd.R_alloc | apply Kd.R_drewN | apply Kd.R_drew)); first | exact HO_8.out | exact Kd.R_mono HO_8.out (fun _ h_ => by simp only [Kd.own_len] at h_ ⊢; exact h_)⟩, ⟨by repeat (first | (with_reducible first | exact HB.out | apply below_alloc | apply pw_below_drewN | apply below_drew1) | exact HB.out)⟩⟩
            · rw [if_neg c9] at H
              have c9b0 : decide (x10_1 < (l1.length : Int)) = false := decide_eq_false c9
              clear c9
              have H' := Aside0.mk H
              clear H
              go_wp2
              go_meet
              case rel => exact ⟨_, (false), (by first | rfl | (simp; done) | (simp [*]; done)), H', ⟨by have := HK1.out; first | omega | exact Nat.le_refl _⟩, ⟨by (with_reducible repeat (first | apply Kd.R_alloc | apply Kd.R_drewN | apply Kd.R_drew)); first | exact HO_8.out | exact Kd.R_mono HO_8.out (fun _ h_ => by simp only [Kd.own_len] at h_ ⊢; exact h_)⟩, ⟨by repeat (first | (with_reducible first | exact HB.out | apply below_alloc | apply pw_below_drewN | apply below_drew1) | exact HB.out)⟩⟩
          · rw [if_neg c8] at H
            have c8b0 : decide (x10_1 < (l0.length : Int)) = false := decide_eq_false c8
            clear c8
            (first | rw [c8b0] | (simp only [i64_w, i32_w]; rw [c8b0]) | skip)
            have H' := Aside0.mk H
            clear H
            go_wp2
            go_meet
            case rel => exact ⟨_, (false), (by first | rfl | (simp; done) | (simp [*]; done)), H', ⟨by have := HK1.out; first | omega | exact Nat.le_refl _⟩, ⟨by (with_reducible repeat (first | apply Kd.R_alloc | apply Kd.R_drewN | apply Kd.R_drew)); first | exact HO_8.out | exact Kd.R_mono HO_8.out (fun _ h_ => by simp only [Kd.own_len] at h_ ⊢; exact h_)⟩, ⟨by repeat (first | (with_reducible first | exact HB.out | apply below_alloc | apply pw_below_drewN | apply below_drew1) | exact HB.out)⟩⟩
        case rest =>
          clear HC7
          try clear c1
          try clear c2
          try clear p2
          try clear c5
          try clear c8
          try clear c8b0
          try clear c9
          try clear c9b0
          try clear p2
          obtain ⟨kq, x36_6, rfl, HA, HJ6, HO_8, HB⟩ := hcut
          cases kq with
          | zero => exact absurd HA.out (by simp [donatuslaw16_FrameAll.j1])
          | succ kj6 =>
            have H := HA.out
            clear HA
            simp only [donatuslaw16_FrameAll.j1] at H
            by_cases c10 : x36_6 = true
            · subst c10
              have H1 : (if 0 ≤ x10_1 then (if x10_1 < (l1.length : Int) then (if x10_1 < (l0.length : Int) then ((donatuslaw1_Short.f (rd_L2 l0 x10_1) 100).bind fun t261 => ((donatusref1_Seal.f kj6 (wrap64 (1 + (Int.tmod (wrap64 ((Int.tmod (rd l1 x10_1) 255) + 255)) 255))) t261).bind fun t264 => (if x8_1.length + t264.length < 140737488355328 then (donatuslaw16_FrameAll.l0 kj6 l0 l1 l2 (x8_1 ++ t264) (wrap64 (x9_1 + 1)) (wrap64 (x10_1 + 1))) else (none)))) else (none)) else (none)) else (none)) = some r := by rw [if_pos rfl] at H; exact H
              clear H
              have H := H1
              clear H1
              by_cases c11 : 0 ≤ x10_1
              · rw [if_pos c11] at H
                have c11b0 : decide (0 ≤ x10_1) = true := decide_eq_true c11
                clear c11
                by_cases c12 : x10_1 < (l1.length : Int)
                · rw [if_pos c12] at H
                  have c12b0 : decide (x10_1 < (l1.length : Int)) = true := decide_eq_true c12
                  clear c12
                  by_cases c13 : x10_1 < (l0.length : Int)
                  · rw [if_pos c13] at H
                    have c13b0 : decide (x10_1 < (l0.length : Int)) = true := decide_eq_true c13
                    clear c13
                    replace H := Option.bind_eq_some_iff.mp H
                    obtain ⟨t261, A140, H⟩ := H
                    replace H : ((donatusref1_Seal.f kj6 (wrap64 (1 + (Int.tmod (wrap64 ((Int.tmod (rd l1 x10_1) 255) + 255)) 255))) t261).bind fun t264 => (if x8_1.length + t264.length < 140737488355328 then (donatuslaw16_FrameAll.l0 kj6 l0 l1 l2 (x8_1 ++ t264) (wrap64 (x9_1 + 1)) (wrap64 (x10_1 + 1))) else (none))) = some r := H
                    have A14 := Aside0.mk A140
                    clear A140
                    replace H := Option.bind_eq_some_iff.mp H
                    obtain ⟨t264, A150, H⟩ := H
                    replace H : (if x8_1.length + t264.length < 140737488355328 then (donatuslaw16_FrameAll.l0 kj6 l0 l1 l2 (x8_1 ++ t264) (wrap64 (x9_1 + 1)) (wrap64 (x10_1 + 1))) else (none)) = some r := H
                    have A15 := Aside0.mk A150
                    clear A150
                    by_cases c16 : x8_1.length + t264.length < 140737488355328
                    · rw [if_pos c16] at H
                      have LMc16 := Aside0.mk c16
                      clear c16
                      obtain ⟨y267, hy267⟩ : ∃ y_ : List Int, y_ = (x8_1 ++ t264) := ⟨_, rfl⟩
                      replace H : (donatuslaw16_FrameAll.l0 kj6 l0 l1 l2 y267 (wrap64 (x9_1 + 1)) (wrap64 (x10_1 + 1))) = some r := by first | (rw [hy267]; with_reducible exact H) | (have H2_ := (Option.bind_some _ _).symm.trans H; rw [hy267]; with_reducible exact H2_) | (have H2_ := (Option.bind_some _ _).symm.trans H; with_reducible exact H2_) | with_reducible exact H | (rw [hy267]; exact H) | exact H
                      have Ny267 := Aside0.mk hy267
                      clear hy267
                      have H' := Aside0.mk H
                      clear H
                      have p259 : 0 ≤ (x10_1 : Int) := of_decide_eq_true (by first | (with_reducible assumption) | assumption)
                      have q259 : x10_1 < (l1.length : Int) := of_decide_eq_true (by first | (with_reducible assumption) | assumption)
                      obtain ⟨ad259, e259, hx259_0⟩ := Kd.at_int HR1.out x10_1 p259 q259
                      cases e259
                      replace hx259_0 := (HB.out.cell (World.block_lt_of_cell? w _ hx259_0)).trans hx259_0
                      replace p259 := eq_true p259
                      replace q259 := eq_true q259
                      have p260 : 0 ≤ (x10_1 : Int) := of_decide_eq_true (by first | (with_reducible assumption) | assumption)
                      have q260 : x10_1 < (l0.length : Int) := of_decide_eq_true (by first | (with_reducible assumption) | assumption)
                      obtain ⟨ad260, A260_0, c260_0, e260, hx260_0, hl260_0, hi260_0⟩ := at_L2 HR0.out x10_1 p260 q260
                      cases e260
                      replace hx260_0 := (HB.out.cell (World.block_lt_of_cell? w _ hx260_0)).trans hx260_0
                      have HR260_0 := Aside0.mk hi260_0
                      have HC260_0 := Aside0.mk hl260_0
                      clear hi260_0 hl260_0
                      replace p260 := eq_true p260
                      replace q260 := eq_true q260
                      go_wp2_with (first | ((with_reducible refine gate_callee (f := 10) rfl ?_); refine goesL_ (some 53) rfl rfl Try.func10 (by kernel_rfl) rfl #[.slice A260_0 (rd_L2 l0 x10_1).length c260_0, .int .i64 100] rfl (by (try simp only [List.map_toArray, List.map_cons, List.map_nil]); first | done | rfl | (simp only [List.length_drop, List.length_take]; rfl)) ?_; (with_reducible refine (donatuslaw1_Short.calls (fun k_ => k_ < w.heap.size) _ _ (rd_L2 l0 x10_1) 100 t261 _ ?side1 A14.out).mono ?_); (case side1 => exact Kd.V_mk HC260_0.out (Kd.F_below (Kd.C_F (Kd.heap_int .u8) HR260_0.out) (by repeat (first | (with_reducible first | exact HB.out | apply below_alloc | apply pw_below_drewN | apply below_drew1) | exact HB.out)))); rintro e w17 ⟨v262, rfl, ho0, hb⟩; refine ⟨_, rfl, ?_⟩; have n0_ := Aside0.mk (Kd.R_below (by (with_reducible repeat (first | apply Kd.R_alloc | apply Kd.R_drewN | apply Kd.R_drew)); first | exact HO_8.out | exact Kd.R_mono HO_8.out (fun _ h_ => by simp only [Kd.own_len] at h_ ⊢; exact h_)) hb); have n1_ := Aside0.mk (Kd.V_lower (Kd.V_mono (ok' := fun k_ => some k_ ≠ (u8 : Value).ownBlock) ho0 (fun k_ hk_ => Or.elim hk_ (fun hs_ => fun e_ => Nat.not_le.2 hs_ (Kd.R_base HO_8.out k_ e_.symm)) (fun hn_ => (Kd.fresh' (Kd.R_lt (by (with_reducible repeat (first | apply Kd.R_alloc | apply Kd.R_drewN | apply Kd.R_drew)); first | exact HO_8.out | exact Kd.R_mono HO_8.out (fun _ h_ => by simp only [Kd.own_len] at h_ ⊢; exact h_))) k_ hn_)))) (below_size (by repeat (first | (with_reducible first | exact HB.out | apply below_alloc | apply pw_below_drewN | apply below_drew1) | exact HB.out)))); have n2_ := Aside0.mk (below_step (by repeat (first | (with_reducible first | exact HB.out | apply below_alloc | apply pw_below_drewN | apply below_drew1) | exact HB.out)) hb); clear HO_8; clear HB; have HO_8 := n0_; have HO263 := n1_; have HB := n2_; clear n0_ n1_ n2_; (try clear hb); (try clear hb2); (try clear hk); (try clear hi); (try clear ho0); obtain ⟨Ao18, co18, eo18⟩ := Kd.V_slice HO263.out; subst eo18) | ((with_reducible refine gate_callee (f := 12) rfl ?_); refine goesL_ (some 54) rfl rfl Try.func12 (by kernel_rfl) rfl #[.int .i64 (wrap64 (1 + (Int.tmod (wrap64 ((Int.tmod (rd l1 x10_1) 255) + 255)) 255))), .slice Ao18 t261.length co18] rfl (by (try simp only [List.map_toArray, List.map_cons, List.map_nil]); first | done | rfl | (simp only [List.length_drop, List.length_take]; rfl)) ?_; (with_reducible refine (donatusref1_Seal.calls kj6 (wrap64 (1 + (Int.tmod (wrap64 ((Int.tmod (rd l1 x10_1) 255) + 255)) 255))) _ _ t261 t264 _ ?side1 ?side2 A15.out).mono ?_); (case side1 => repeat (first | exact (Kd.V_reads' HO263.out).2.2 | (with_reducible refine Kd.C_alloc ?_ _) | (with_reducible refine Kd.C_drewN ?_ _) | (with_reducible refine Kd.C_drew ?_))); (case side2 => exact (Kd.V_reads' HO263.out).2.1); rintro e w19 ⟨v265, rfl, ho0, hb⟩; refine ⟨_, rfl, ?_⟩; have n0_ := Aside0.mk (Kd.R_elder' (by (with_reducible repeat (first | apply Kd.R_alloc | apply Kd.R_drewN | apply Kd.R_drew)); first | exact HO_8.out | exact Kd.R_mono HO_8.out (fun _ h_ => by simp only [Kd.own_len] at h_ ⊢; exact h_)) (Kd.R_base ho0) hb); have n1_ := Aside0.mk (Kd.V_elder' (by (with_reducible repeat (first | apply Kd.V_alloc | apply Kd.V_drewN | apply Kd.V_drew)); first | exact HO263.out | exact Kd.V_mono HO263.out (fun _ h_ => by simp only [Kd.own_len] at h_ ⊢; exact h_)) (Kd.R_base ho0) hb); have n2_ := Aside0.mk (Kd.R_lower (Kd.R_new' ho0 (Kd.R_lt (by (with_reducible repeat (first | apply Kd.R_alloc | apply Kd.R_drewN | apply Kd.R_drew)); first | exact HO_8.out | exact Kd.R_mono HO_8.out (fun _ h_ => by simp only [Kd.own_len] at h_ ⊢; exact h_)))) (below_size (by repeat (first | (with_reducible first | exact HB.out | apply below_alloc | apply pw_below_drewN | apply below_drew1) | exact HB.out)))); have n3_ := Aside0.mk (below_step (by repeat (first | (with_reducible first | exact HB.out | apply below_alloc | apply pw_below_drewN | apply below_drew1) | exact HB.out)) hb); clear HO_8; clear HO263; clear HB; have HO_8 := n0_; have HO263 := n1_; have HO266 := n2_; have HB := n3_; clear n0_ n1_ n2_ n3_; (try clear hb); (try clear hb2); (try clear hk); (try clear hi); (try clear ho0); obtain ⟨Ao21, co21, eo21⟩ := Kd.R_slice HO266.out; subst eo21) | ((with_reducible refine gate_builtin (b := .append) (xs := #[.tmp 47, .tmp 54]) rfl ?_); (try (refine gate_guard (by rfl) ?_; dsimp only)); at_builtin; refine Kd.R_append_rows (Kd.int .u8) (w0 := w) w.heap.size rfl (.tmp 47) (.tmp 54) 22 5 (.int .u8 0) 1 rfl Try.underlying22 info5 rfl (by decide) (by omega) u8 x8_1 t264 _ _ _ (fun k_ => some k_ ≠ (.slice Ao21 t264.length co21 : Value).ownBlock) (fun _ => False) rfl rfl ?aO ?aR (fun _ _ h => h) (fun _ h => h.elim) ?aF ?aB ?aS ?aL ?_; (case aR => repeat (first | exact (Kd.R_reads' HO266.out).2.2 | (with_reducible refine Kd.C_alloc ?_ _) | (with_reducible refine Kd.C_drewN ?_ _) | (with_reducible refine Kd.C_drew ?_))); (case aB => exact (by repeat (first | (with_reducible first | exact HB.out | apply below_alloc | apply pw_below_drewN | apply below_drew1) | exact HB.out))); (case aF => exact (fun k_ hk => Kd.fresh' (Kd.R_lt (by (with_reducible repeat (first | apply Kd.R_alloc | apply Kd.R_drewN | apply Kd.R_drew)); first | exact HO266.out | exact Kd.R_mono HO266.out (fun _ h_ => by simp only [Kd.own_len] at h_ ⊢; exact h_))) k_ hk)); (case aO => exact (by (with_reducible repeat (first | apply Kd.R_alloc | apply Kd.R_drewN | apply Kd.R_drew)); first | exact Kd.R_mono HO_8.out (fun _ hk => hk.2) | exact Kd.R_mono (Kd.R_mono HO_8.out (fun _ hk => hk.2)) (fun _ h_ => by simp only [Kd.own_len] at h_ ⊢; exact h_))); (case aS => exact (below_size (by repeat (first | (with_reducible first | exact HB.out | apply below_alloc | apply pw_below_drewN | apply below_drew1) | exact HB.out)))); (case aL => have := LMc16.out; omega); intro v268 w20 ho hb hg hat; rw [← Ny267.out] at ho; have n0_ := Aside0.mk (Kd.V_afterv (ok := (fun k_ => some k_ ≠ (.slice Ao21 t264.length co21 : Value).ownBlock)) (by (with_reducible repeat (first | apply Kd.V_alloc | apply Kd.V_drewN | apply Kd.V_drew)); first | exact Kd.V_mono HO263.out (fun _ hk => ⟨hk.2, hk.1⟩) | exact Kd.V_mono (Kd.V_mono HO263.out (fun _ hk => ⟨hk.2, hk.1⟩)) (fun _ h_ => by simp only [Kd.own_len] at h_ ⊢; exact h_)) hg hat); have n1_ := Aside0.mk (Kd.R_after (ok := (fun _ => True)) (by (with_reducible repeat (first | apply Kd.R_alloc | apply Kd.R_drewN | apply Kd.R_drew)); first | exact HO266.out | exact Kd.R_mono HO266.out (fun _ h_ => by simp only [Kd.own_len] at h_ ⊢; exact h_)) hg hat); have n2_ := Aside0.mk (hb); have n3_ := Aside0.mk (ho); clear HO263; clear HO266; clear HB; clear HO_8; have HO263 := n0_; have HO266 := n1_; have HB := n2_; have HO269 := n3_; clear n0_ n1_ n2_ n3_; clear ho hb hg hat))
                      go_roundg kj6
                      case measure => have := HK1.out; have := HJ6.out; omega
                      case rel => exact ⟨(y267), (wrap64 (x9_1 + 1)), (wrap64 (x10_1 + 1)), (by first | rfl | (simp; done) | (simp [*]; done)), (by first | rfl | (simp; done) | (simp [*]; done)), H', ⟨by have := HK1.out; have := HJ6.out; omega⟩, ⟨by (with_reducible repeat (first | apply Kd.R_alloc | apply Kd.R_drewN | apply Kd.R_drew)); first | exact Kd.R_mono HO269.out (fun _ hk => trivial) | exact Kd.R_mono (Kd.R_mono HO269.out (fun _ hk => trivial)) (fun _ h_ => by simp only [Kd.own_len] at h_ ⊢; exact h_)⟩, ⟨by repeat (first | (with_reducible first | exact HB.out | apply below_alloc | apply pw_below_drewN | apply below_drew1) | exact HB.out)⟩⟩
                    · rw [if_neg c16] at H
                      exact absurd H (by simp)
                  · rw [if_neg c13] at H
                    exact absurd H (by simp)
                · rw [if_neg c12] at H
                  exact absurd H (by simp)
              · rw [if_neg c11] at H
                exact absurd H (by simp)
            · replace c10 := Bool.eq_false_iff.mpr c10
              subst c10
              have H1 : ((donatuslaw1_Short.f l2 20).bind fun t270 => (if x8_1.length + t270.length < 140737488355328 then ((some (x8_1 ++ t270 : List Int)).bind fun y273 => ((frame_All.f kj6 y273).bind fun bt276 => (if (bt276.1.length : Int) < x9_1 then (none) else (donatuslaw16_FrameAll.l1 kj6 l0 l1 y273 x9_1 (x8_1.length : Int) bt276.1 bt276.2 0)))) else (none))) = some r := by rw [if_neg (show ¬ (false = true) by decide)] at H; exact H
              clear H
              have H := H1
              clear H1
              replace H := Option.bind_eq_some_iff.mp H
              obtain ⟨t270, A220, H⟩ := H
              replace H : (if x8_1.length + t270.length < 140737488355328 then ((some (x8_1 ++ t270 : List Int)).bind fun y273 => ((frame_All.f kj6 y273).bind fun bt276 => (if (bt276.1.length : Int) < x9_1 then (none) else (donatuslaw16_FrameAll.l1 kj6 l0 l1 y273 x9_1 (x8_1.length : Int) bt276.1 bt276.2 0)))) else (none)) = some r := H
              have A22 := Aside0.mk A220
              clear A220
              by_cases c23 : x8_1.length + t270.length < 140737488355328
              · rw [if_pos c23] at H
                have LMc23 := Aside0.mk c23
                clear c23
                obtain ⟨y273, hy273⟩ : ∃ y_ : List Int, y_ = (x8_1 ++ t270) := ⟨_, rfl⟩
                replace H : ((frame_All.f kj6 y273).bind fun bt276 => (if (bt276.1.length : Int) < x9_1 then (none) else (donatuslaw16_FrameAll.l1 kj6 l0 l1 y273 x9_1 (x8_1.length : Int) bt276.1 bt276.2 0))) = some r := by first | (rw [hy273]; with_reducible exact H) | (have H2_ := (Option.bind_some _ _).symm.trans H; rw [hy273]; with_reducible exact H2_) | (have H2_ := (Option.bind_some _ _).symm.trans H; with_reducible exact H2_) | with_reducible exact H | (rw [hy273]; exact H) | exact H
                have Ny273 := Aside0.mk hy273
                clear hy273
                replace H := Option.bind_eq_some_iff.mp H
                obtain ⟨⟨t276, t277⟩, A240, H⟩ := H
                replace H : (if (t276.length : Int) < x9_1 then (none) else (donatuslaw16_FrameAll.l1 kj6 l0 l1 y273 x9_1 (x8_1.length : Int) t276 t277 0)) = some r := H
                have A24 := Aside0.mk A240
                clear A240
                by_cases c25 : (t276.length : Int) < x9_1
                · rw [if_pos c25] at H
                  exact absurd H (by simp)
                · rw [if_neg c25] at H
                  have c25b0 : decide ((t276.length : Int) < x9_1) = false := decide_eq_false c25
                  clear c25
                  have H' := Aside0.mk H
                  clear H
                  obtain ⟨Ao26, co26, eo26⟩ := Kd.R_slice HO_8.out
                  subst eo26
                  go_wp2_with (first | ((with_reducible refine gate_callee (f := 10) rfl ?_); refine goesL_ (some 62) rfl rfl Try.func10 (by kernel_rfl) rfl #[.slice A2 l2.length c2, .int .i64 20] rfl (by (try simp only [List.map_toArray, List.map_cons, List.map_nil]); first | done | rfl | (simp only [List.length_drop, List.length_take]; rfl)) ?_; (with_reducible refine (donatuslaw1_Short.calls (fun k_ => k_ < w.heap.size) _ _ l2 20 t270 _ ?side1 A22.out).mono ?_); (case side1 => exact Kd.V_mk HC2.out (Kd.F_below (Kd.C_F (Kd.heap_int .u8) HR2.out) (by repeat (first | (with_reducible first | exact HB.out | apply below_alloc | apply pw_below_drewN | apply below_drew1) | exact HB.out)))); rintro e w27 ⟨v271, rfl, ho0, hb⟩; refine ⟨_, rfl, ?_⟩; have n0_ := Aside0.mk (Kd.R_below (by (with_reducible repeat (first | apply Kd.R_alloc | apply Kd.R_drewN | apply Kd.R_drew)); first | exact HO_8.out | exact Kd.R_mono HO_8.out (fun _ h_ => by simp only [Kd.own_len] at h_ ⊢; exact h_)) hb); have n1_ := Aside0.mk (Kd.V_lower (Kd.V_mono (ok' := fun k_ => some k_ ≠ (.slice Ao26 x8_1.length co26 : Value).ownBlock) ho0 (fun k_ hk_ => Or.elim hk_ (fun hs_ => fun e_ => Nat.not_le.2 hs_ (Kd.R_base HO_8.out k_ e_.symm)) (fun hn_ => (Kd.fresh' (Kd.R_lt (by (with_reducible repeat (first | apply Kd.R_alloc | apply Kd.R_drewN | apply Kd.R_drew)); first | exact HO_8.out | exact Kd.R_mono HO_8.out (fun _ h_ => by simp only [Kd.own_len] at h_ ⊢; exact h_))) k_ hn_)))) (below_size (by repeat (first | (with_reducible first | exact HB.out | apply below_alloc | apply pw_below_drewN | apply below_drew1) | exact HB.out)))); have n2_ := Aside0.mk (below_step (by repeat (first | (with_reducible first | exact HB.out | apply below_alloc | apply pw_below_drewN | apply below_drew1) | exact HB.out)) hb); clear HO_8; clear HB; have HO_8 := n0_; have HO272 := n1_; have HB := n2_; clear n0_ n1_ n2_; (try clear hb); (try clear hb2); (try clear hk); (try clear hi); (try clear ho0); obtain ⟨Ao29, co29, eo29⟩ := Kd.V_slice HO272.out; subst eo29) | ((with_reducible refine gate_builtin (b := .append) (xs := #[.tmp 60, .tmp 62]) rfl ?_); (try (refine gate_guard (by rfl) ?_; dsimp only)); at_builtin; refine Kd.R_append_rows (Kd.int .u8) (w0 := w) w.heap.size rfl (.tmp 60) (.tmp 62) 22 5 (.int .u8 0) 1 rfl Try.underlying22 info5 rfl (by decide) (by omega) (.slice Ao26 x8_1.length co26) x8_1 t270 _ _ _ (fun _ => True) (fun _ => False) rfl rfl ?aO ?aR (fun _ _ h => h) (fun _ h => h.elim) ?aF ?aB ?aS ?aL ?_; (case aR => repeat (first | exact (Kd.V_reads' HO272.out).2.2 | (with_reducible refine Kd.C_alloc ?_ _) | (with_reducible refine Kd.C_drewN ?_ _) | (with_reducible refine Kd.C_drew ?_))); (case aB => exact (by repeat (first | (with_reducible first | exact HB.out | apply below_alloc | apply pw_below_drewN | apply below_drew1) | exact HB.out))); (case aF => exact (fun _ _ => trivial)); (case aO => exact (by (with_reducible repeat (first | apply Kd.R_alloc | apply Kd.R_drewN | apply Kd.R_drew)); first | exact HO_8.out | exact Kd.R_mono HO_8.out (fun _ h_ => by simp only [Kd.own_len] at h_ ⊢; exact h_))); (case aS => exact (below_size (by repeat (first | (with_reducible first | exact HB.out | apply below_alloc | apply pw_below_drewN | apply below_drew1) | exact HB.out)))); (case aL => have := LMc23.out; omega); intro v274 w28 ho hb hg hat; rw [← Ny273.out] at ho; have n0_ := Aside0.mk (Kd.V_afterv (ok := (fun _ => True)) (by (with_reducible repeat (first | apply Kd.V_alloc | apply Kd.V_drewN | apply Kd.V_drew)); first | exact Kd.V_mono HO272.out (fun _ hk => ⟨trivial, hk⟩) | exact Kd.V_mono (Kd.V_mono HO272.out (fun _ hk => ⟨trivial, hk⟩)) (fun _ h_ => by simp only [Kd.own_len] at h_ ⊢; exact h_)) hg hat); have n1_ := Aside0.mk (hb); have n2_ := Aside0.mk (ho); clear HO272; clear HB; clear HO_8; have HO272 := n0_; have HB := n1_; have HO275 := n2_; clear n0_ n1_ n2_; clear ho hb hg hat; obtain ⟨Ao30, co30, eo30⟩ := Kd.R_slice HO275.out; subst eo30) | ((with_reducible refine gate_callee (f := 15) rfl ?_); refine goesL_ (some 66) rfl rfl Try.func15 (by kernel_rfl) rfl #[.slice Ao30 y273.length co30] rfl (by (try simp only [List.map_toArray, List.map_cons, List.map_nil]); first | done | rfl | (simp only [List.length_drop, List.length_take]; rfl)) ?_; (with_reducible refine (frame_All.calls kj6 _ _ y273 t276 t277 _ ?side1 ?side2 A24.out).mono ?_); (case side1 => repeat (first | exact (Kd.R_reads' HO275.out).2.2 | (with_reducible refine Kd.C_alloc ?_ _) | (with_reducible refine Kd.C_drewN ?_ _) | (with_reducible refine Kd.C_drew ?_))); (case side2 => exact (Kd.R_reads' HO275.out).2.1); rintro e w31 ⟨v278, rfl, ho0, hb⟩; refine ⟨_, rfl, ?_⟩; have n0_ := Aside0.mk (Kd.V_elder' (by (with_reducible repeat (first | apply Kd.V_alloc | apply Kd.V_drewN | apply Kd.V_drew)); first | exact HO272.out | exact Kd.V_mono HO272.out (fun _ h_ => by simp only [Kd.own_len] at h_ ⊢; exact h_)) (Kd.S_base ho0) hb); have n1_ := Aside0.mk (Kd.R_below (by (with_reducible repeat (first | apply Kd.R_alloc | apply Kd.R_drewN | apply Kd.R_drew)); first | exact HO275.out | exact Kd.R_mono HO275.out (fun _ h_ => by simp only [Kd.own_len] at h_ ⊢; exact h_)) hb); have n2_ := Aside0.mk (Kd.S_lower (Kd.S_new' ho0 (Kd.R_lt (by (with_reducible repeat (first | apply Kd.R_alloc | apply Kd.R_drewN | apply Kd.R_drew)); first | exact HO275.out | exact Kd.R_mono HO275.out (fun _ h_ => by simp only [Kd.own_len] at h_ ⊢; exact h_)))) (below_size (by repeat (first | (with_reducible first | exact HB.out | apply below_alloc | apply pw_below_drewN | apply below_drew1) | exact HB.out)))); have n3_ := Aside0.mk (below_step (by repeat (first | (with_reducible first | exact HB.out | apply below_alloc | apply pw_below_drewN | apply below_drew1) | exact HB.out)) hb); clear HO272; clear HO275; clear HB; have HO272 := n0_; have HO275 := n1_; have HO279 := n2_; have HB := n3_; clear n0_ n1_ n2_ n3_; (try clear hb); (try clear hb2); (try clear hk); (try clear hi); (try clear ho0); obtain ⟨Ao32, co32, eo32⟩ := Kd.S_slice HO279.out; subst eo32))
                  go_loopg [15] kj6 (fun kq v15 w' => ∃ (x15_3 : Int), v15 = .int .i64 x15_3 ∧ Aside0 (donatuslaw16_FrameAll.l1 kq l0 l1 y273 x9_1 (x8_1.length : Int) t276 t277 x15_3 = some r) ∧ Aside0 (kq ≤ kj6) ∧ Aside0 (Kd.R (Kd.int .u8) 5 w' w.heap.size (fun _ => True) (.slice Ao30 y273.length co30) y273) ∧ Aside0 (Kd.S k38 38 w' w.heap.size (fun k_ => some k_ ≠ ((.slice Ao30 y273.length co30) : Value).ownBlock) (.slice Ao32 t276.length co32) t276) ∧ Aside0 (Below w.heap.size w w'))
                  case atStart => exact ⟨(0), (by first | rfl | (simp; done) | (simp [*]; done)), H', ⟨Nat.le_refl _⟩, ⟨by (with_reducible repeat (first | apply Kd.R_alloc | apply Kd.R_drewN | apply Kd.R_drew)); first | exact HO275.out | exact Kd.R_mono HO275.out (fun _ h_ => by simp only [Kd.own_len] at h_ ⊢; exact h_)⟩, ⟨by (with_reducible repeat (first | apply Kd.S_alloc | apply Kd.S_drewN | apply Kd.S_drew)); exact Kd.S_mono HO279.out (fun _ hk => hk.2)⟩, ⟨by repeat (first | (with_reducible first | exact HB.out | apply below_alloc | apply pw_below_drewN | apply below_drew1) | exact HB.out)⟩⟩
                  case round =>
                    clear H'
                    try clear c1
                    try clear c2
                    try clear p2
                    try clear q2
                    try clear hx2
                    try clear c5
                    try clear p6
                    try clear c8
                    try clear c8b0
                    try clear c9
                    try clear c9b0
                    try clear c10
                    try clear c11
                    try clear c11b0
                    try clear c12
                    try clear c12b0
                    try clear c13
                    try clear c13b0
                    try clear c15
                    try clear c16
                    try clear c23
                    try clear c25
                    try clear c25b0
                    try clear p25
                    try clear q25
                    try clear hx25
                    try clear c26
                    try clear p26
                    try clear q26
                    try clear hx26
                    try clear hx259_0
                    try clear hx260_0
                    try clear p2
                    try clear p259
                    try clear p260
                    try clear q259
                    try clear q260
                    obtain ⟨x15_3, rfl, HA, HK3, HO_8, HO_13, HB⟩ := hrel
                    cases gk with
                    | zero => exact absurd HA.out (by simp [donatuslaw16_FrameAll.l1])
                    | succ k3 =>
                      have H := HA.out
                      clear HA
                      simp only [donatuslaw16_FrameAll.l1] at H
                      by_cases c33 : x15_3 < x9_1
                      · rw [if_pos c33] at H
                        have c33b0 : decide (x15_3 < x9_1) = true := decide_eq_true c33
                        clear c33
                        by_cases c34 : 0 ≤ x15_3
                        · rw [if_pos c34] at H
                          have c34b0 : decide (0 ≤ x15_3) = true := decide_eq_true c34
                          clear c34
                          by_cases c35 : x15_3 < (t276.length : Int)
                          · rw [if_pos c35] at H
                            have c35b0 : decide (x15_3 < (t276.length : Int)) = true := decide_eq_true c35
                            clear c35
                            by_cases c36 : x15_3 < (l1.length : Int)
                            · rw [if_pos c36] at H
                              have c36b0 : decide (x15_3 < (l1.length : Int)) = true := decide_eq_true c36
                              clear c36
                              by_cases c37 : ((rd_T38 t276 x15_3).f0) = (wrap64 (1 + (Int.tmod (wrap64 ((Int.tmod (rd l1 x15_3) 255) + 255)) 255)))
                              · rw [if_pos c37] at H
                                have c37b0 : (((rd_T38 t276 x15_3).f0) == (wrap64 (1 + (Int.tmod (wrap64 ((Int.tmod (rd l1 x15_3) 255) + 255)) 255)))) = true := beq_iff_eq.mpr c37
                                have c37b1 : (((rd_T38 t276 x15_3).f0) != (wrap64 (1 + (Int.tmod (wrap64 ((Int.tmod (rd l1 x15_3) 255) + 255)) 255)))) = false := bne_eq_false_iff_eq.mpr c37
                                clear c37
                                by_cases c38 : x15_3 < (l0.length : Int)
                                · rw [if_pos c38] at H
                                  have c38b0 : decide (x15_3 < (l0.length : Int)) = true := decide_eq_true c38
                                  clear c38
                                  replace H := Option.bind_eq_some_iff.mp H
                                  obtain ⟨t284, A390, H⟩ := H
                                  replace H : (if (strOfNums ((rd_T38 t276 x15_3).f1)).toList = (strOfNums t284).toList then (donatuslaw16_FrameAll.l1 k3 l0 l1 y273 x9_1 (x8_1.length : Int) t276 t277 (wrap64 (x15_3 + 1))) else (none)) = some r := H
                                  have A39 := Aside0.mk A390
                                  clear A390
                                  by_cases c40 : (strOfNums ((rd_T38 t276 x15_3).f1)).toList = (strOfNums t284).toList
                                  · rw [if_pos c40] at H
                                    have c40b0 : ((strOfNums ((rd_T38 t276 x15_3).f1)).toList == (strOfNums t284).toList) = true := beq_iff_eq.mpr c40
                                    have c40b1 : ((strOfNums ((rd_T38 t276 x15_3).f1)).toList != (strOfNums t284).toList) = false := bne_eq_false_iff_eq.mpr c40
                                    clear c40
                                    have H' := Aside0.mk H
                                    clear H
                                    try go_wp2
                                    have n0_ := Aside0.mk (Kd.R_drew HO_8.out)
                                    have n1_ := Aside0.mk (Kd.S_drew HO_13.out)
                                    have n2_ := Aside0.mk (below_drew1 HB.out)
                                    clear HO_8
                                    clear HO_13
                                    clear HB
                                    have HO_8 := n0_
                                    have HO_13 := n1_
                                    have HB := n2_
                                    clear n0_ n1_ n2_
                                    have p280 : 0 ≤ (x15_3 : Int) := of_decide_eq_true (by first | (with_reducible assumption) | assumption)
                                    have q280 : x15_3 < (t276.length : Int) := of_decide_eq_true (by first | (with_reducible assumption) | assumption)
                                    obtain ⟨ad280, A280_1, c280_1, e280, hx280_0, hx280_1, hl280_1, hi280_1⟩ := at_T38 (Kd.S_reads' HO_13.out).2.2 x15_3 p280 q280
                                    cases e280
                                    obtain ⟨ce280, hce280, hMe280, hcc280⟩ := Kd.S_get HO_13.out z38 x15_3 p280 (by first | exact q280 | exact of_decide_eq_true (by first | (with_reducible assumption) | assumption) | (have e_ := (Kd.S_reads' HO_13.out).1; omega))
                                    obtain ⟨ve280_1, rfl, ge280_1⟩ := k38_openM hMe280
                                    have hv280_1 := hcc280 1 _ rfl
                                    rw [add_field _ _ 1 (by omega)] at hv280_1
                                    replace hv280_1 := Option.some.inj (hv280_1.symm.trans hx280_1)
                                    rw [hv280_1] at ge280_1
                                    have HL280_1 := Aside0.mk (show Kd.R (Kd.int .u8) 5 _ _ _ _ ((rd_T38 t276 x15_3).f1) from ge280_1)
                                    clear hv280_1 ge280_1
                                    clear hcc280 hce280
                                    have HR280_1 := Aside0.mk hi280_1
                                    have HC280_1 := Aside0.mk hl280_1
                                    clear hi280_1 hl280_1
                                    replace p280 := eq_true p280
                                    replace q280 := eq_true q280
                                    have p281 : 0 ≤ (x15_3 : Int) := of_decide_eq_true (by first | (with_reducible assumption) | assumption)
                                    have q281 : x15_3 < (l1.length : Int) := of_decide_eq_true (by first | (with_reducible assumption) | assumption)
                                    obtain ⟨ad281, e281, hx281_0⟩ := Kd.at_int HR1.out x15_3 p281 q281
                                    have hw281_0 := hx281_0
                                    cases e281
                                    replace hx281_0 := (HB.out.cell (World.block_lt_of_cell? w _ hx281_0)).trans hx281_0
                                    replace p281 := eq_true p281
                                    replace q281 := eq_true q281
                                    have p282 : 0 ≤ (x15_3 : Int) := of_decide_eq_true (by first | (with_reducible assumption) | assumption)
                                    have q282 : x15_3 < (t276.length : Int) := of_decide_eq_true (by first | (with_reducible assumption) | assumption)
                                    obtain ⟨ad282, A282_1, c282_1, e282, hx282_0, hx282_1, hl282_1, hi282_1⟩ := at_T38 (Kd.S_reads' HO_13.out).2.2 x15_3 p282 q282
                                    obtain rfl : ad280 = ad282 := (by injection e282)
                                    obtain ⟨ce282, hce282, hMe282, hcc282⟩ := Kd.S_get HO_13.out z38 x15_3 p282 (by first | exact q282 | exact of_decide_eq_true (by first | (with_reducible assumption) | assumption) | (have e_ := (Kd.S_reads' HO_13.out).1; omega))
                                    obtain ⟨ve282_1, rfl, ge282_1⟩ := k38_openM hMe282
                                    have hv282_1 := hcc282 1 _ rfl
                                    rw [add_field _ _ 1 (by omega)] at hv282_1
                                    replace hv282_1 := Option.some.inj (hv282_1.symm.trans hx282_1)
                                    rw [hv282_1] at ge282_1
                                    have HL282_1 := Aside0.mk (show Kd.R (Kd.int .u8) 5 _ _ _ _ ((rd_T38 t276 x15_3).f1) from ge282_1)
                                    clear hv282_1 ge282_1
                                    clear hcc282 hce282
                                    have HR282_1 := Aside0.mk hi282_1
                                    have HC282_1 := Aside0.mk hl282_1
                                    clear hi282_1 hl282_1
                                    replace p282 := eq_true p282
                                    replace q282 := eq_true q282
                                    have ea_ := Option.some.inj (hx280_1.symm.trans hx282_1)
                                    injection ea_ with ea_ en_ ec_
                                    subst ea_
                                    subst ec_
                                    clear en_
                                    have p283 : 0 ≤ (x15_3 : Int) := of_decide_eq_true (by first | (with_reducible assumption) | assumption)
                                    have q283 : x15_3 < (l0.length : Int) := of_decide_eq_true (by first | (with_reducible assumption) | assumption)
                                    obtain ⟨ad283, A283_0, c283_0, e283, hx283_0, hl283_0, hi283_0⟩ := at_L2 HR0.out x15_3 p283 q283
                                    have hw283_0 := hx283_0
                                    cases e283
                                    replace hx283_0 := (HB.out.cell (World.block_lt_of_cell? w _ hx283_0)).trans hx283_0
                                    have HR283_0 := Aside0.mk hi283_0
                                    have HC283_0 := Aside0.mk hl283_0
                                    clear hi283_0 hl283_0
                                    replace p283 := eq_true p283
                                    replace q283 := eq_true q283
                                    refine start_ (n := 29) (S := fun w' => w'.cell? (ad280.add ((x15_3).toNat * 2)) = some (.int .i64 ((rd_T38 t276 x15_3).f0)) ∧ w'.cell? ⟨(ad280.add ((x15_3).toNat * 2)).block, (ad280.add ((x15_3).toNat * 2)).off + 1, none⟩ = some (.slice A280_1 ((rd_T38 t276 x15_3).f1).length c280_1) ∧ w'.cell? (ad281.add (x15_3).toNat) = some (.int .i64 (rd l1 x15_3)) ∧ w'.cell? (ad280.add ((x15_3).toNat * 2)) = some (.int .i64 ((rd_T38 t276 x15_3).f0)) ∧ w'.cell? ⟨(ad280.add ((x15_3).toNat * 2)).block, (ad280.add ((x15_3).toNat * 2)).off + 1, none⟩ = some (.slice A280_1 ((rd_T38 t276 x15_3).f1).length c280_1) ∧ (∀ k_, k_ = ((rd_T38 t276 x15_3).f1).length → (convert 22 9 (.slice A280_1 k_ c280_1)).run Try.prog w' = .ok (.string (strOfNums ((rd_T38 t276 x15_3).f1))) w') ∧ w'.cell? (ad283.add (x15_3).toNat) = some (.slice A283_0 (rd_L2 l0 x15_3).length c283_0)) (ds := []) #[false, false, false, false, false, false, false, false, false, false, false, false, false, false, false, false, false, false, false, false, false, false, false, false, false, false, false, false, false] (by kernel_rfl) rfl rfl ⟨hx280_0, hx280_1, ((HB.out.cell (World.block_lt_of_cell? w _ hw281_0)).trans hw281_0), hx282_0, hx282_1, (Kd.C_string_as Try.underlying22 Try.underlying5 Try.underlying9 (by repeat (first | (with_reducible exact HR282_1.out) | (with_reducible refine Kd.C_alloc ?_ _) | (with_reducible refine Kd.C_drewN ?_ _) | (with_reducible refine Kd.C_drew ?_) | exact HR282_1.out))), ((HB.out.cell (World.block_lt_of_cell? w _ hw283_0)).trans hw283_0)⟩ (fun hHeld => ?_); refine with_tabW donatuslaw16_FrameAll.tab20 donatuslaw16_FrameAll.bits20 (fun HT_ HW_ => ?_)
                                    generalize wr.drew = w41 at HO_8 HO_13 HB HL280_1 HL282_1 HR280_1 HR282_1 HR283_0 hx280_0 hx280_1 hx281_0 hx282_0 hx282_1 hx283_0 hHeld ⊢
                                    refine pure_ (i := 0) (N := some 78) (v := ?_) (a' := ?_) #[true, false, false, false, false, false, false, false, false, false, false, false, false, false, false, false, false, false, false, false, false, false, false, false, false, false, false, false, false] rfl rfl (any_of HT_.out (by kernel_rfl)) (fun _ _ _ h => h) (Or.inl ⟨by rfl, ?_⟩) ?_ ?_
                                    rotate_left
                                    · intro w'
                                      go_simp
                                      with_reducible rfl
                                    rotate_left
                                    · simp only [Act.put, List.setIfInBounds_toArray, List.set_cons_zero, List.set_cons_succ, i64_w, i32_w]
                                      rfl
                                    refine pure_ (i := 1) (N := some 79) (v := ?_) (a' := ?_) #[true, true, false, false, false, false, false, false, false, false, false, false, false, false, false, false, false, false, false, false, false, false, false, false, false, false, false, false, false] rfl rfl (any_of HT_.out (by kernel_rfl)) (fun _ _ _ h => h) (Or.inl ⟨by rfl, ?_⟩) ?_ ?_
                                    rotate_left
                                    · intro w'
                                      go_simp
                                      with_reducible rfl
                                    rotate_left
                                    · simp only [Act.put, List.setIfInBounds_toArray, List.set_cons_zero, List.set_cons_succ, i64_w, i32_w]
                                      rfl
                                    refine pure_ (i := 2) (N := some 80) (v := ?_) (a' := ?_) #[true, true, true, false, false, false, false, false, false, false, false, false, false, false, false, false, false, false, false, false, false, false, false, false, false, false, false, false, false] rfl rfl (any_of HT_.out (by kernel_rfl)) (fun _ _ _ h => h) (Or.inl ⟨by rfl, ?_⟩) ?_ ?_
                                    rotate_left
                                    · intro w'
                                      go_simp
                                      with_reducible rfl
                                    rotate_left
                                    · simp only [Act.put, List.setIfInBounds_toArray, List.set_cons_zero, List.set_cons_succ, i64_w, i32_w]
                                      rfl
                                    refine pure_ (i := 3) (N := some 81) (v := ?_) (a' := ?_) #[true, true, true, true, false, false, false, false, false, false, false, false, false, false, false, false, false, false, false, false, false, false, false, false, false, false, false, false, false] rfl rfl (any_of HT_.out (by kernel_rfl)) (fun _ _ _ h => h) (Or.inl ⟨by rfl, ?_⟩) ?_ ?_
                                    rotate_left
                                    · intro w'
                                      go_simp
                                      with_reducible rfl
                                    rotate_left
                                    · simp only [Act.put, List.setIfInBounds_toArray, List.set_cons_zero, List.set_cons_succ, i64_w, i32_w]
                                      rfl
                                    refine pure_ (i := 5) (N := some 83) (v := ?_) (a' := ?_) #[true, true, true, true, false, true, false, false, false, false, false, false, false, false, false, false, false, false, false, false, false, false, false, false, false, false, false, false, false] rfl rfl (any_of HT_.out (by kernel_rfl)) (fun _ _ _ h => h) (Or.inl ⟨by rfl, ?_⟩) ?_ ?_
                                    rotate_left
                                    · intro w'
                                      go_simp
                                      with_reducible rfl
                                    rotate_left
                                    · simp only [Act.put, List.setIfInBounds_toArray, List.set_cons_zero, List.set_cons_succ, i64_w, i32_w]
                                      rfl
                                    refine pure_ (i := 6) (N := some 84) (v := ?_) (a' := ?_) #[true, true, true, true, false, true, true, false, false, false, false, false, false, false, false, false, false, false, false, false, false, false, false, false, false, false, false, false, false] rfl rfl (any_of HT_.out (by kernel_rfl)) (fun _ _ _ h => h) (Or.inl ⟨by rfl, ?_⟩) ?_ ?_
                                    rotate_left
                                    · intro w'
                                      go_simp
                                      with_reducible rfl
                                    rotate_left
                                    · simp only [Act.put, List.setIfInBounds_toArray, List.set_cons_zero, List.set_cons_succ, i64_w, i32_w]
                                      rfl
                                    refine pure_ (i := 7) (N := some 85) (v := ?_) (a' := ?_) #[true, true, true, true, false, true, true, true, false, false, false, false, false, false, false, false, false, false, false, false, false, false, false, false, false, false, false, false, false] rfl rfl (any_of HT_.out (by kernel_rfl)) (fun _ _ _ h => h) (Or.inl ⟨by rfl, ?_⟩) ?_ ?_
                                    rotate_left
                                    · intro w'
                                      go_simp
                                      with_reducible rfl
                                    rotate_left
                                    · simp only [Act.put, List.setIfInBounds_toArray, List.set_cons_zero, List.set_cons_succ, i64_w, i32_w]
                                      rfl
                                    refine take_ (i := 4) (N := some 82) (v := ?_) (a' := ?_) #[true, true, true, true, true, true, true, true, false, false, false, false, false, false, false, false, false, false, false, false, false, false, false, false, false, false, false, false, false] rfl rfl (take_ofW HT_.out HW_.out (by kernel_rfl)) (fun _ _ _ h => h) (Or.inl ⟨by rfl, ?_⟩) hHeld ?_ ?_
                                    rotate_left
                                    · rintro w' ⟨s0, s1, s2, s3, s4, s5, s6⟩
                                      go_simp
                                      with_reducible rfl
                                    rotate_left
                                    · simp only [Act.put, List.setIfInBounds_toArray, List.set_cons_zero, List.set_cons_succ, i64_w, i32_w]
                                      rfl
                                    refine take_ (i := 8) (N := some 86) (v := ?_) (a' := ?_) #[true, true, true, true, true, true, true, true, true, false, false, false, false, false, false, false, false, false, false, false, false, false, false, false, false, false, false, false, false] rfl rfl (take_ofW HT_.out HW_.out (by kernel_rfl)) (fun _ _ _ h => h) (Or.inl ⟨by rfl, ?_⟩) hHeld ?_ ?_
                                    rotate_left
                                    · rintro w' ⟨s0, s1, s2, s3, s4, s5, s6⟩
                                      go_simp
                                      with_reducible rfl
                                    rotate_left
                                    · simp only [Act.put, List.setIfInBounds_toArray, List.set_cons_zero, List.set_cons_succ, i64_w, i32_w]
                                      rfl
                                    refine pure_ (i := 9) (N := some 87) (v := ?_) (a' := ?_) #[true, true, true, true, true, true, true, true, true, true, false, false, false, false, false, false, false, false, false, false, false, false, false, false, false, false, false, false, false] rfl rfl (any_of HT_.out (by kernel_rfl)) (fun _ _ _ h => h) (Or.inl ⟨by rfl, ?_⟩) ?_ ?_
                                    rotate_left
                                    · intro w'
                                      go_simp
                                      with_reducible rfl
                                    rotate_left
                                    · simp only [Act.put, List.setIfInBounds_toArray, List.set_cons_zero, List.set_cons_succ, i64_w, i32_w]
                                      rfl
                                    refine pure_ (i := 10) (N := some 88) (v := ?_) (a' := ?_) #[true, true, true, true, true, true, true, true, true, true, true, false, false, false, false, false, false, false, false, false, false, false, false, false, false, false, false, false, false] rfl rfl (any_of HT_.out (by kernel_rfl)) (fun _ _ _ h => h) (Or.inl ⟨by rfl, ?_⟩) ?_ ?_
                                    rotate_left
                                    · intro w'
                                      go_simp
                                      with_reducible rfl
                                    rotate_left
                                    · simp only [Act.put, List.setIfInBounds_toArray, List.set_cons_zero, List.set_cons_succ, i64_w, i32_w]
                                      rfl
                                    refine pure_ (i := 11) (N := some 89) (v := ?_) (a' := ?_) #[true, true, true, true, true, true, true, true, true, true, true, true, false, false, false, false, false, false, false, false, false, false, false, false, false, false, false, false, false] rfl rfl (any_of HT_.out (by kernel_rfl)) (fun _ _ _ h => h) (Or.inl ⟨by rfl, ?_⟩) ?_ ?_
                                    rotate_left
                                    · intro w'
                                      go_simp
                                      with_reducible rfl
                                    rotate_left
                                    · simp only [Act.put, List.setIfInBounds_toArray, List.set_cons_zero, List.set_cons_succ, i64_w, i32_w]
                                      rfl
                                    refine pure_ (i := 12) (N := some 90) (v := ?_) (a' := ?_) #[true, true, true, true, true, true, true, true, true, true, true, true, true, false, false, false, false, false, false, false, false, false, false, false, false, false, false, false, false] rfl rfl (any_of HT_.out (by kernel_rfl)) (fun _ _ _ h => h) (Or.inl ⟨by rfl, ?_⟩) ?_ ?_
                                    rotate_left
                                    · intro w'
                                      go_simp
                                      with_reducible rfl
                                    rotate_left
                                    · simp only [Act.put, List.setIfInBounds_toArray, List.set_cons_zero, List.set_cons_succ, i64_w, i32_w]
                                      rfl
                                    refine pure_ (i := 13) (N := some 91) (v := ?_) (a' := ?_) #[true, true, true, true, true, true, true, true, true, true, true, true, true, true, false, false, false, false, false, false, false, false, false, false, false, false, false, false, false] rfl rfl (any_of HT_.out (by kernel_rfl)) (fun _ _ _ h => h) (Or.inl ⟨by rfl, ?_⟩) ?_ ?_
                                    rotate_left
                                    · intro w'
                                      go_simp
                                      with_reducible rfl
                                    rotate_left
                                    · simp only [Act.put, List.setIfInBounds_toArray, List.set_cons_zero, List.set_cons_succ, i64_w, i32_w]
                                      rfl
                                    refine pure_ (i := 14) (N := some 92) (v := ?_) (a' := ?_) #[true, true, true, true, true, true, true, true, true, true, true, true, true, true, true, false, false, false, false, false, false, false, false, false, false, false, false, false, false] rfl rfl (any_of HT_.out (by kernel_rfl)) (fun _ _ _ h => h) (Or.inl ⟨by rfl, ?_⟩) ?_ ?_
                                    rotate_left
                                    · intro w'
                                      go_simp
                                      with_reducible rfl
                                    rotate_left
                                    · simp only [Act.put, List.setIfInBounds_toArray, List.set_cons_zero, List.set_cons_succ, i64_w, i32_w]
                                      rfl
                                    refine pure_ (i := 15) (N := some 93) (v := ?_) (a' := ?_) #[true, true, true, true, true, true, true, true, true, true, true, true, true, true, true, true, false, false, false, false, false, false, false, false, false, false, false, false, false] rfl rfl (any_of HT_.out (by kernel_rfl)) (fun _ _ _ h => h) (Or.inl ⟨by rfl, ?_⟩) ?_ ?_
                                    rotate_left
                                    · intro w'
                                      go_simp
                                      with_reducible rfl
                                    rotate_left
                                    · simp only [Act.put, List.setIfInBounds_toArray, List.set_cons_zero, List.set_cons_succ, i64_w, i32_w]
                                      rfl
                                    refine pure_ (i := 16) (N := some 94) (v := ?_) (a' := ?_) #[true, true, true, true, true, true, true, true, true, true, true, true, true, true, true, true, true, false, false, false, false, false, false, false, false, false, false, false, false] rfl rfl (any_of HT_.out (by kernel_rfl)) (fun _ _ _ h => h) (Or.inl ⟨by rfl, ?_⟩) ?_ ?_
                                    rotate_left
                                    · intro w'
                                      go_simp
                                      with_reducible rfl
                                    rotate_left
                                    · simp only [Act.put, List.setIfInBounds_toArray, List.set_cons_zero, List.set_cons_succ, i64_w, i32_w]
                                      rfl
                                    refine pure_ (i := 17) (N := some 95) (v := ?_) (a' := ?_) #[true, true, true, true, true, true, true, true, true, true, true, true, true, true, true, true, true, true, false, false, false, false, false, false, false, false, false, false, false] rfl rfl (any_of HT_.out (by kernel_rfl)) (fun _ _ _ h => h) (Or.inl ⟨by rfl, ?_⟩) ?_ ?_
                                    rotate_left
                                    · intro w'
                                      go_simp
                                      with_reducible rfl
                                    rotate_left
                                    · simp only [Act.put, List.setIfInBounds_toArray, List.set_cons_zero, List.set_cons_succ, i64_w, i32_w]
                                      rfl
                                    refine pure_ (i := 18) (N := some 96) (v := ?_) (a' := ?_) #[true, true, true, true, true, true, true, true, true, true, true, true, true, true, true, true, true, true, true, false, false, false, false, false, false, false, false, false, false] rfl rfl (any_of HT_.out (by kernel_rfl)) (fun _ _ _ h => h) (Or.inl ⟨by rfl, ?_⟩) ?_ ?_
                                    rotate_left
                                    · intro w'
                                      go_simp
                                      with_reducible rfl
                                    rotate_left
                                    · simp only [Act.put, List.setIfInBounds_toArray, List.set_cons_zero, List.set_cons_succ, i64_w, i32_w]
                                      rfl
                                    refine pure_ (i := 21) (N := some 99) (v := ?_) (a' := ?_) #[true, true, true, true, true, true, true, true, true, true, true, true, true, true, true, true, true, true, true, false, false, true, false, false, false, false, false, false, false] rfl rfl (any_of HT_.out (by kernel_rfl)) (fun _ _ _ h => h) (Or.inl ⟨by rfl, ?_⟩) ?_ ?_
                                    rotate_left
                                    · intro w'
                                      go_simp
                                      with_reducible rfl
                                    rotate_left
                                    · simp only [Act.put, List.setIfInBounds_toArray, List.set_cons_zero, List.set_cons_succ, i64_w, i32_w]
                                      rfl
                                    refine pure_ (i := 22) (N := some 100) (v := ?_) (a' := ?_) #[true, true, true, true, true, true, true, true, true, true, true, true, true, true, true, true, true, true, true, false, false, true, true, false, false, false, false, false, false] rfl rfl (any_of HT_.out (by kernel_rfl)) (fun _ _ _ h => h) (Or.inl ⟨by rfl, ?_⟩) ?_ ?_
                                    rotate_left
                                    · intro w'
                                      go_simp
                                      with_reducible rfl
                                    rotate_left
                                    · simp only [Act.put, List.setIfInBounds_toArray, List.set_cons_zero, List.set_cons_succ, i64_w, i32_w]
                                      rfl
                                    refine pure_ (i := 23) (N := some 101) (v := ?_) (a' := ?_) #[true, true, true, true, true, true, true, true, true, true, true, true, true, true, true, true, true, true, true, false, false, true, true, true, false, false, false, false, false] rfl rfl (any_of HT_.out (by kernel_rfl)) (fun _ _ _ h => h) (Or.inl ⟨by rfl, ?_⟩) ?_ ?_
                                    rotate_left
                                    · intro w'
                                      go_simp
                                      with_reducible rfl
                                    rotate_left
                                    · simp only [Act.put, List.setIfInBounds_toArray, List.set_cons_zero, List.set_cons_succ, i64_w, i32_w]
                                      rfl
                                    refine take_ (i := 19) (N := some 97) (v := ?_) (a' := ?_) #[true, true, true, true, true, true, true, true, true, true, true, true, true, true, true, true, true, true, true, true, false, true, true, true, false, false, false, false, false] rfl rfl (take_ofW HT_.out HW_.out (by kernel_rfl)) (fun _ _ _ h => h) (Or.inl ⟨by rfl, ?_⟩) hHeld ?_ ?_
                                    rotate_left
                                    · rintro w' ⟨s0, s1, s2, s3, s4, s5, s6⟩
                                      go_simp
                                      with_reducible rfl
                                    rotate_left
                                    · simp only [Act.put, List.setIfInBounds_toArray, List.set_cons_zero, List.set_cons_succ, i64_w, i32_w]
                                      rfl
                                    refine take_ (i := 20) (N := some 98) (v := ?_) (a' := ?_) #[true, true, true, true, true, true, true, true, true, true, true, true, true, true, true, true, true, true, true, true, true, true, true, true, false, false, false, false, false] rfl rfl (take_ofW HT_.out HW_.out (by kernel_rfl)) (fun _ _ _ h => h) (Or.inl ⟨by rfl, ?_⟩) hHeld ?_ ?_
                                    rotate_left
                                    · rintro w' ⟨s0, s1, s2, s3, s4, s5, s6⟩
                                      go_simp
                                      with_reducible rfl
                                    rotate_left
                                    · simp only [Act.put, List.setIfInBounds_toArray, List.set_cons_zero, List.set_cons_succ, i64_w, i32_w]
                                      rfl
                                    refine take_ (i := 24) (N := some 102) (v := ?_) (a' := ?_) #[true, true, true, true, true, true, true, true, true, true, true, true, true, true, true, true, true, true, true, true, true, true, true, true, true, false, false, false, false] rfl rfl (take_ofW HT_.out HW_.out (by kernel_rfl)) (fun _ _ _ h => h) (Or.inl ⟨by rfl, ?_⟩) hHeld ?_ ?_
                                    rotate_left
                                    · rintro w' ⟨s0, s1, s2, s3, s4, s5, s6⟩
                                      go_simp
                                      with_reducible rfl
                                    rotate_left
                                    · simp only [Act.put, List.setIfInBounds_toArray, List.set_cons_zero, List.set_cons_succ, i64_w, i32_w]
                                      rfl
                                    refine one_ (i := 25) (N := some 103) #[true, true, true, true, true, true, true, true, true, true, true, true, true, true, true, true, true, true, true, true, true, true, true, true, true, true, false, false, false] rfl rfl (one_of HT_.out (by kernel_rfl)) (by decide) (fun K hK => ?_)
                                    refine goes_ Try.func10 (by kernel_rfl) rfl #[.slice A283_0 (rd_L2 l0 x15_3).length c283_0, .int .i64 100] (by rfl) rfl rfl (by (try simp only [List.map_toArray, List.map_cons, List.map_nil]); first | done | rfl | (simp only [List.length_drop, List.length_take]; rfl)) ?_
                                    with_reducible refine (donatuslaw1_Short.calls (fun k_ => k_ < w.heap.size) _ _ (rd_L2 l0 x15_3) 100 t284 _ ?side1 A39.out).mono ?_
                                    (case side1 => exact Kd.V_mk HC283_0.out (Kd.F_below (Kd.C_F (Kd.heap_int .u8) HR283_0.out) (by repeat (first | (with_reducible first | exact HB.out | apply below_alloc | apply pw_below_drewN | apply below_drew1) | exact HB.out))))
                                    rintro e w43 ⟨v285, rfl, ho0, hb⟩
                                    have HS0_ := (hb.cell (World.block_lt_of_cell? _ _ (hHeld.1))).trans (hHeld.1)
                                    have HS1_ := (hb.cell (World.block_lt_of_cell? _ _ (hHeld.2.1))).trans (hHeld.2.1)
                                    have HS3_ := (hb.cell (World.block_lt_of_cell? _ _ (hHeld.2.2.2.1))).trans (hHeld.2.2.2.1)
                                    have HS4_ := (hb.cell (World.block_lt_of_cell? _ _ (hHeld.2.2.2.2.1))).trans (hHeld.2.2.2.2.1)
                                    refine ⟨_, rfl, ?_⟩
                                    have n0_ := Aside0.mk (Kd.R_below (by (with_reducible repeat (first | apply Kd.R_alloc | apply Kd.R_drewN | apply Kd.R_drew)); first | exact HO_8.out | exact Kd.R_mono HO_8.out (fun _ h_ => by simp only [Kd.own_len] at h_ ⊢; exact h_)) hb)
                                    have n1_ := Aside0.mk (Kd.S_below (by (with_reducible repeat (first | apply Kd.S_alloc | apply Kd.S_drewN | apply Kd.S_drew)); exact HO_13.out) hb)
                                    have n2_ := Aside0.mk (Kd.R_below (by (with_reducible repeat (first | apply Kd.R_alloc | apply Kd.R_drewN | apply Kd.R_drew)); first | exact HL280_1.out | exact Kd.R_mono HL280_1.out (fun _ h_ => by simp only [Kd.own_len] at h_ ⊢; exact h_)) hb)
                                    have n3_ := Aside0.mk (Kd.R_below (by (with_reducible repeat (first | apply Kd.R_alloc | apply Kd.R_drewN | apply Kd.R_drew)); first | exact HL282_1.out | exact Kd.R_mono HL282_1.out (fun _ h_ => by simp only [Kd.own_len] at h_ ⊢; exact h_)) hb)
                                    have n4_ := Aside0.mk (Kd.V_lower (Kd.V_mono (ok' := fun k_ => some k_ ≠ (.slice Ao30 y273.length co30 : Value).ownBlock ∧ some k_ ≠ (.slice (some ad280) t276.length co32 : Value).ownBlock) ho0 (fun k_ hk_ => ⟨Or.elim hk_ (fun hs_ => fun e_ => Nat.not_le.2 hs_ (Kd.R_base HO_8.out k_ e_.symm)) (fun hn_ => (Kd.fresh' (Kd.R_lt (by (with_reducible repeat (first | apply Kd.R_alloc | apply Kd.R_drewN | apply Kd.R_drew)); first | exact HO_8.out | exact Kd.R_mono HO_8.out (fun _ h_ => by simp only [Kd.own_len] at h_ ⊢; exact h_))) k_ hn_)), Or.elim hk_ (fun hs_ => fun e_ => Nat.not_le.2 hs_ (Kd.S_base HO_13.out k_ e_.symm)) (fun hn_ => (Kd.fresh' (Kd.S_lt (by (with_reducible repeat (first | apply Kd.S_alloc | apply Kd.S_drewN | apply Kd.S_drew)); exact HO_13.out)) k_ hn_))⟩)) (below_size (by repeat (first | (with_reducible first | exact HB.out | apply below_alloc | apply pw_below_drewN | apply below_drew1) | exact HB.out))))
                                    have n5_ := Aside0.mk (Kd.C_below (by repeat (first | (with_reducible exact HR280_1.out) | (with_reducible refine Kd.C_alloc ?_ _) | (with_reducible refine Kd.C_drewN ?_ _) | (with_reducible refine Kd.C_drew ?_) | exact HR280_1.out)) hb)
                                    have n6_ := Aside0.mk (Kd.C_below (by repeat (first | (with_reducible exact HR282_1.out) | (with_reducible refine Kd.C_alloc ?_ _) | (with_reducible refine Kd.C_drewN ?_ _) | (with_reducible refine Kd.C_drew ?_) | exact HR282_1.out)) hb)
                                    have n7_ := Aside0.mk (below_step (by repeat (first | (with_reducible first | exact HB.out | apply below_alloc | apply pw_below_drewN | apply below_drew1) | exact HB.out)) hb)
                                    clear HO_8
                                    clear HO_13
                                    clear HL280_1
                                    clear HL282_1
                                    clear HR280_1
                                    clear HR282_1
                                    clear HB
                                    have HO_8 := n0_
                                    have HO_13 := n1_
                                    have HL280_1 := n2_
                                    have HL282_1 := n3_
                                    have HO286 := n4_
                                    have HR280_1 := n5_
                                    have HR282_1 := n6_
                                    have HB := n7_
                                    clear n0_ n1_ n2_ n3_ n4_ n5_ n6_ n7_
                                    (try clear hb)
                                    (try clear hb2)
                                    (try clear hk)
                                    (try clear hi)
                                    (try clear ho0)
                                    refine hK.out _ _ ⟨HS0_, HS1_, ((HB.out.cell (World.block_lt_of_cell? w _ hw281_0)).trans hw281_0), HS3_, HS4_, (Kd.C_string_as Try.underlying22 Try.underlying5 Try.underlying9 (by repeat (first | (with_reducible exact HR282_1.out) | (with_reducible refine Kd.C_alloc ?_ _) | (with_reducible refine Kd.C_drewN ?_ _) | (with_reducible refine Kd.C_drew ?_) | exact HR282_1.out))), ((HB.out.cell (World.block_lt_of_cell? w _ hw283_0)).trans hw283_0)⟩ (fun hHeld => ?_)
                                    clear hK K
                                    refine norm_ (a' := ?_) ?_ ?_
                                    rotate_left
                                    · show Act.put _ (some 103) _ = _
                                      simp only [Act.put, List.setIfInBounds_toArray, List.set_cons_zero, List.set_cons_succ, i64_w, i32_w]
                                      rfl
                                    refine one_ (i := 26) (N := some 104) #[true, true, true, true, true, true, true, true, true, true, true, true, true, true, true, true, true, true, true, true, true, true, true, true, true, true, true, false, false] rfl rfl (one_of HT_.out (by kernel_rfl)) (by decide) (fun K hK => ?_)
                                    have hcv44 := Kd.V_string (P := Try.prog) Try.underlying22 Try.underlying5 Try.underlying9 HO286.out
                                    refine value_ (w1 := ?_) (v := ?_) (by rfl) rfl ?_ ?_
                                    rotate_left 2
                                    · go_simp
                                      constructor
                                      · rfl
                                      · rfl
                                    clear hcv44
                                    refine hK.out _ _ ⟨hHeld.1, hHeld.2.1, ((HB.out.cell (World.block_lt_of_cell? w _ hw281_0)).trans hw281_0), hHeld.2.2.2.1, hHeld.2.2.2.2.1, (Kd.C_string_as Try.underlying22 Try.underlying5 Try.underlying9 (by repeat (first | (with_reducible exact HR282_1.out) | (with_reducible refine Kd.C_alloc ?_ _) | (with_reducible refine Kd.C_drewN ?_ _) | (with_reducible refine Kd.C_drew ?_) | exact HR282_1.out))), ((HB.out.cell (World.block_lt_of_cell? w _ hw283_0)).trans hw283_0)⟩ (fun hHeld => ?_)
                                    clear hK K
                                    refine norm_ (a' := ?_) ?_ ?_
                                    rotate_left
                                    · show Act.put _ (some 104) _ = _
                                      simp only [Act.put, List.setIfInBounds_toArray, List.set_cons_zero, List.set_cons_succ, i64_w, i32_w]
                                      rfl
                                    refine pure_ (i := 27) (N := some 105) (v := ?_) (a' := ?_) #[true, true, true, true, true, true, true, true, true, true, true, true, true, true, true, true, true, true, true, true, true, true, true, true, true, true, true, true, false] rfl rfl (any_of HT_.out (by kernel_rfl)) (fun _ _ _ h => h) (Or.inl ⟨by rfl, ?_⟩) ?_ ?_
                                    rotate_left
                                    · intro w'
                                      go_simp
                                      with_reducible rfl
                                    rotate_left
                                    · simp only [Act.put, List.setIfInBounds_toArray, List.set_cons_zero, List.set_cons_succ, i64_w, i32_w]
                                      rfl
                                    refine pure_ (i := 28) (N := some 106) (v := ?_) (a' := ?_) #[true, true, true, true, true, true, true, true, true, true, true, true, true, true, true, true, true, true, true, true, true, true, true, true, true, true, true, true, true] rfl rfl (any_of HT_.out (by kernel_rfl)) (fun _ _ _ h => h) (Or.inl ⟨by rfl, ?_⟩) ?_ ?_
                                    rotate_left
                                    · intro w'
                                      go_simp
                                      with_reducible rfl
                                    rotate_left
                                    · simp only [Act.put, List.setIfInBounds_toArray, List.set_cons_zero, List.set_cons_succ, i64_w, i32_w]
                                      rfl
                                    refine done_ (done_of HT_.out (by kernel_rfl)) ?_
                                    try go_wp2
                                    go_roundg k3
                                    case measure => have := HK1.out; have := HJ6.out; have := HK3.out; omega
                                    case rel => exact ⟨(wrap64 (x15_3 + 1)), (by first | rfl | (simp; done) | (simp [*]; done)), H', ⟨by have := HK1.out; have := HJ6.out; have := HK3.out; omega⟩, ⟨by (with_reducible repeat (first | apply Kd.R_alloc | apply Kd.R_drewN | apply Kd.R_drew)); first | exact HO_8.out | exact Kd.R_mono HO_8.out (fun _ h_ => by simp only [Kd.own_len] at h_ ⊢; exact h_)⟩, ⟨by (with_reducible repeat (first | apply Kd.S_alloc | apply Kd.S_drewN | apply Kd.S_drew)); exact HO_13.out⟩, ⟨by repeat (first | (with_reducible first | exact HB.out | apply below_alloc | apply pw_below_drewN | apply below_drew1) | exact HB.out)⟩⟩
                                  · rw [if_neg c40] at H
                                    exact absurd H (by simp)
                                · rw [if_neg c38] at H
                                  exact absurd H (by simp)
                              · rw [if_neg c37] at H
                                have c37b0 : (((rd_T38 t276 x15_3).f0) == (wrap64 (1 + (Int.tmod (wrap64 ((Int.tmod (rd l1 x15_3) 255) + 255)) 255)))) = false := beq_eq_false_iff_ne.mpr c37
                                have c37b1 : (((rd_T38 t276 x15_3).f0) != (wrap64 (1 + (Int.tmod (wrap64 ((Int.tmod (rd l1 x15_3) 255) + 255)) 255)))) = true := bne_iff_ne.mpr c37
                                exact absurd H (by simp)
                            · rw [if_neg c36] at H
                              exact absurd H (by simp)
                          · rw [if_neg c35] at H
                            exact absurd H (by simp)
                        · rw [if_neg c34] at H
                          exact absurd H (by simp)
                      · rw [if_neg c33] at H
                        have c33b0 : decide (x15_3 < x9_1) = false := decide_eq_false c33
                        clear c33
                        by_cases c45 : 0 ≤ (x8_1.length : Int)
                        · rw [if_pos c45] at H
                          have c45b0 := eq_true c45
                          have c45b1 : decide (0 ≤ (x8_1.length : Int)) = true := decide_eq_true c45
                          clear c45
                          by_cases c46 : (x8_1.length : Int) ≤ (y273.length : Int)
                          · rw [if_pos c46] at H
                            have c46b0 := eq_true c46
                            have c46b1 : decide ((x8_1.length : Int) ≤ (y273.length : Int)) = true := decide_eq_true c46
                            clear c46
                            obtain ⟨y287, hy287⟩ : ∃ y_ : List Int, y_ = (y273.drop ((x8_1.length : Int) : Int).toNat) := ⟨_, rfl⟩
                            replace H : ((donatusref1_Open.f k3 y287).bind fun bt291 => (if (t276.length : Int) > x9_1 then (if bt291.2.2.2 = 0 then (if t277 ≥ (wrap64 ((x8_1.length : Int) + bt291.2.2.1)) then (some true) else (if (t276.length : Int) = x9_1 then (if t277 = (x8_1.length : Int) then (some (bt291.2.2.2 != 0)) else (none)) else (none))) else (if (t276.length : Int) = x9_1 then (if t277 = (x8_1.length : Int) then (some (bt291.2.2.2 != 0)) else (none)) else (none))) else (if (t276.length : Int) = x9_1 then (if t277 = (x8_1.length : Int) then (some (bt291.2.2.2 != 0)) else (none)) else (none)))) = some r := by first | (rw [hy287]; with_reducible exact H) | (have H2_ := (Option.bind_some _ _).symm.trans H; rw [hy287]; with_reducible exact H2_) | (have H2_ := (Option.bind_some _ _).symm.trans H; with_reducible exact H2_) | with_reducible exact H | (rw [hy287]; exact H) | exact H
                            have Ny287 := Aside0.mk hy287
                            clear hy287
                            replace H := Option.bind_eq_some_iff.mp H
                            obtain ⟨⟨t291, t292, t295, t296⟩, A470, H⟩ := H
                            replace H : (if (t276.length : Int) > x9_1 then (if t296 = 0 then (if t277 ≥ (wrap64 ((x8_1.length : Int) + t295)) then (some true) else (if (t276.length : Int) = x9_1 then (if t277 = (x8_1.length : Int) then (some (t296 != 0)) else (none)) else (none))) else (if (t276.length : Int) = x9_1 then (if t277 = (x8_1.length : Int) then (some (t296 != 0)) else (none)) else (none))) else (if (t276.length : Int) = x9_1 then (if t277 = (x8_1.length : Int) then (some (t296 != 0)) else (none)) else (none))) = some r := H
                            have A47 := Aside0.mk A470
                            clear A470
                            by_cases c48 : (t276.length : Int) > x9_1
                            · rw [if_pos c48] at H
                              have c48b0 : decide (x9_1 < (t276.length : Int)) = true := decide_eq_true c48
                              clear c48
                              by_cases c49 : t296 = 0
                              · rw [if_pos c49] at H
                                have c49b0 : (t296 == 0) = true := beq_iff_eq.mpr c49
                                have c49b1 : (t296 != 0) = false := bne_eq_false_iff_eq.mpr c49
                                clear c49
                                by_cases c50 : t277 ≥ (wrap64 ((x8_1.length : Int) + t295))
                                · rw [if_pos c50] at H
                                  have c50b0 : decide ((wrap64 ((x8_1.length : Int) + t295)) ≤ t277) = true := decide_eq_true c50
                                  clear c50
                                  obtain rfl := Option.some.inj H
                                  have q51 : ((x8_1.length : Int) : Int) ≤ ((y273.length : Int) : Int) := of_decide_eq_true (by first | (with_reducible assumption) | assumption)
                                  obtain ⟨i051, hi051, _, hsz51, _⟩ := info_parts info5
                                  have hroom51 : y273.length ≤ co30 := (Kd.R_reads' HO_8.out).2.1
                                  have hC51 : Kd.C (Kd.int .u8) _ Ao30 y273.length y273 := (Kd.R_reads' HO_8.out).2.2
                                  have q051 : (0 : Int) ≤ ((x8_1.length : Int) : Int) := of_decide_eq_true (by first | (with_reducible assumption) | assumption)
                                  have hcut51 := cut_from (P := Try.prog) 22 5 .i64 Try.underlying22 hi051 1 hsz51 Ao30 y273.length co30 (x8_1.length : Int) q051 q51
                                  have hr51 := Kd.C_drop (m := ((x8_1.length : Int) : Int).toNat) (c := co30) hC51 (by omega) hroom51
                                  obtain ⟨A51, hA51⟩ : ∃ A1, A1 = (if co30 = ((x8_1.length : Int) : Int).toNat then Ao30 else (Ao30 : Option Addr).map (·.add (((x8_1.length : Int) : Int).toNat * 1))) := ⟨_, rfl⟩
                                  obtain ⟨c51, hc51⟩ : ∃ c1, c1 = co30 - ((x8_1.length : Int) : Int).toNat := ⟨_, rfl⟩
                                  have hy51 : y287.length = y273.length - ((x8_1.length : Int) : Int).toNat := (by rw [Ny287.out, List.length_drop] <;> omega)
                                  rw [show (y273).drop ((x8_1.length : Int) : Int).toNat = y287 from Ny287.out.symm] at hr51
                                  replace hr51 : Kd.C (Kd.int .u8) _ A51 y287.length y287 := (by rw [hA51]; exact hr51)
                                  rw [← hy51, ← hA51, ← hc51] at hcut51
                                  have HR290 := Aside0.mk hr51
                                  have HC290 := Aside0.mk (show y287.length ≤ c51 from by rw [hy51, hc51]; exact Nat.sub_le_sub_right hroom51 _)
                                  clear hr51 hC51 hroom51 hi051 hsz51 hc51
                                  have KY51 := Aside0.mk hy51
                                  have KA51 := Aside0.mk hA51
                                  clear hy51 hA51
                                  have KL51 := Aside0.mk (show ((x8_1.length : Int) : Int).toNat ≤ y273.length from by omega)
                                  replace q51 := eq_true q51
                                  go_wp2_with (first | ((with_reducible refine gate_callee (f := 16) rfl ?_); refine goesL_ (some 111) rfl rfl Try.func16 (by kernel_rfl) rfl #[.slice A51 y287.length c51] rfl (by (try simp only [List.map_toArray, List.map_cons, List.map_nil]); first | done | rfl | (simp only [List.length_drop, List.length_take]; rfl)) ?_; (with_reducible refine (donatusref1_Open.calls k3 (fun k_ => some k_ = (.slice Ao30 y273.length co30 : Value).ownBlock) _ _ y287 t291 t292 t295 t296 _ ?side1 A47.out).mono ?_); (case side1 => exact Kd.V_mk HC290.out (by rw [KA51.out, Ny287.out]; exact Kd.F_cut (c := co30) (Kd.V_F (Kd.R_V (e := 5) (base' := 0) (Kd.R_tight rfl (Kd.R_apart' (HO_8.out) (Kd.S_typed HO_13.out) (by decide))))) KL51.out (Kd.R_reads' (Kd.R_apart' (HO_8.out) (Kd.S_typed HO_13.out) (by decide))).2.1)); rintro e w52 ⟨v293, rfl, ho0, hb⟩; refine ⟨_, rfl, ?_⟩; have n0_ := Aside0.mk (Kd.R_below (by (with_reducible repeat (first | apply Kd.R_alloc | apply Kd.R_drewN | apply Kd.R_drew)); first | exact HO_8.out | exact Kd.R_mono HO_8.out (fun _ h_ => by simp only [Kd.own_len] at h_ ⊢; exact h_)) hb); have n1_ := Aside0.mk (Kd.S_below (by (with_reducible repeat (first | apply Kd.S_alloc | apply Kd.S_drewN | apply Kd.S_drew)); exact HO_13.out) hb); have n2_ := Aside0.mk (Kd.V_lower (Kd.V_mono (ok' := fun k_ => some k_ ≠ (.slice Ao32 t276.length co32 : Value).ownBlock) ho0 (fun k_ hk_ => Or.elim hk_ (fun hs_ => ((Kd.R_apart' (HO_8.out) (Kd.S_typed HO_13.out) (by decide)).1 k_ hs_.symm).2) (fun hn_ => (Kd.fresh' (Kd.S_lt (by (with_reducible repeat (first | apply Kd.S_alloc | apply Kd.S_drewN | apply Kd.S_drew)); exact HO_13.out)) k_ hn_)))) (below_size (by repeat (first | (with_reducible first | exact HB.out | apply below_alloc | apply pw_below_drewN | apply below_drew1) | exact HB.out)))); have n3_ := Aside0.mk (Kd.C_below (by repeat (first | (with_reducible exact HR290.out) | (with_reducible refine Kd.C_alloc ?_ _) | (with_reducible refine Kd.C_drewN ?_ _) | (with_reducible refine Kd.C_drew ?_) | exact HR290.out)) hb); have n4_ := Aside0.mk (below_step (by repeat (first | (with_reducible first | exact HB.out | apply below_alloc | apply pw_below_drewN | apply below_drew1) | exact HB.out)) hb); clear HO_8; clear HO_13; clear HR290; clear HB; have HO_8 := n0_; have HO_13 := n1_; have HO294 := n2_; have HR290 := n3_; have HB := n4_; clear n0_ n1_ n2_ n3_ n4_; (try clear hb); (try clear hb2); (try clear hk); (try clear hi); (try clear ho0)))
                                  go_ret
                                  exact ⟨by first | rfl | (simp [errW_none, errW_some] <;> rfl) | (simp [*, errW_none, errW_some] <;> rfl), by repeat (first | (with_reducible first | exact HB.out | apply below_alloc | apply pw_below_drewN | apply below_drew1) | exact HB.out)⟩
                                · rw [if_neg c50] at H
                                  have c50b0 : decide ((wrap64 ((x8_1.length : Int) + t295)) ≤ t277) = false := decide_eq_false c50
                                  clear c50
                                  by_cases c53 : (t276.length : Int) = x9_1
                                  · rw [if_pos c53] at H
                                    have c53b0 : ((t276.length : Int) == x9_1) = true := beq_iff_eq.mpr c53
                                    have c53b1 : ((t276.length : Int) != x9_1) = false := bne_eq_false_iff_eq.mpr c53
                                    clear c53
                                    by_cases c54 : t277 = (x8_1.length : Int)
                                    · rw [if_pos c54] at H
                                      have c54b0 : (t277 == (x8_1.length : Int)) = true := beq_iff_eq.mpr c54
                                      have c54b1 : (t277 != (x8_1.length : Int)) = false := bne_eq_false_iff_eq.mpr c54
                                      clear c54
                                      obtain rfl := Option.some.inj H
                                      have q55 : ((x8_1.length : Int) : Int) ≤ ((y273.length : Int) : Int) := of_decide_eq_true (by first | (with_reducible assumption) | assumption)
                                      obtain ⟨i055, hi055, _, hsz55, _⟩ := info_parts info5
                                      have hroom55 : y273.length ≤ co30 := (Kd.R_reads' HO_8.out).2.1
                                      have hC55 : Kd.C (Kd.int .u8) _ Ao30 y273.length y273 := (Kd.R_reads' HO_8.out).2.2
                                      have q055 : (0 : Int) ≤ ((x8_1.length : Int) : Int) := of_decide_eq_true (by first | (with_reducible assumption) | assumption)
                                      have hcut55 := cut_from (P := Try.prog) 22 5 .i64 Try.underlying22 hi055 1 hsz55 Ao30 y273.length co30 (x8_1.length : Int) q055 q55
                                      have hr55 := Kd.C_drop (m := ((x8_1.length : Int) : Int).toNat) (c := co30) hC55 (by omega) hroom55
                                      obtain ⟨A55, hA55⟩ : ∃ A1, A1 = (if co30 = ((x8_1.length : Int) : Int).toNat then Ao30 else (Ao30 : Option Addr).map (·.add (((x8_1.length : Int) : Int).toNat * 1))) := ⟨_, rfl⟩
                                      obtain ⟨c55, hc55⟩ : ∃ c1, c1 = co30 - ((x8_1.length : Int) : Int).toNat := ⟨_, rfl⟩
                                      have hy55 : y287.length = y273.length - ((x8_1.length : Int) : Int).toNat := (by rw [Ny287.out, List.length_drop] <;> omega)
                                      rw [show (y273).drop ((x8_1.length : Int) : Int).toNat = y287 from Ny287.out.symm] at hr55
                                      replace hr55 : Kd.C (Kd.int .u8) _ A55 y287.length y287 := (by rw [hA55]; exact hr55)
                                      rw [← hy55, ← hA55, ← hc55] at hcut55
                                      have HR290 := Aside0.mk hr55
                                      have HC290 := Aside0.mk (show y287.length ≤ c55 from by rw [hy55, hc55]; exact Nat.sub_le_sub_right hroom55 _)
                                      clear hr55 hC55 hroom55 hi055 hsz55 hc55
                                      have KY55 := Aside0.mk hy55
                                      have KA55 := Aside0.mk hA55
                                      clear hy55 hA55
                                      have KL55 := Aside0.mk (show ((x8_1.length : Int) : Int).toNat ≤ y273.length from by omega)
                                      replace q55 := eq_true q55
                                      go_wp2_with (first | ((with_reducible refine gate_callee (f := 16) rfl ?_); refine goesL_ (some 111) rfl rfl Try.func16 (by kernel_rfl) rfl #[.slice A55 y287.length c55] rfl (by (try simp only [List.map_toArray, List.map_cons, List.map_nil]); first | done | rfl | (simp only [List.length_drop, List.length_take]; rfl)) ?_; (with_reducible refine (donatusref1_Open.calls k3 (fun k_ => some k_ = (.slice Ao30 y273.length co30 : Value).ownBlock) _ _ y287 t291 t292 t295 t296 _ ?side1 A47.out).mono ?_); (case side1 => exact Kd.V_mk HC290.out (by rw [KA55.out, Ny287.out]; exact Kd.F_cut (c := co30) (Kd.V_F (Kd.R_V (e := 5) (base' := 0) (Kd.R_tight rfl (Kd.R_apart' (HO_8.out) (Kd.S_typed HO_13.out) (by decide))))) KL55.out (Kd.R_reads' (Kd.R_apart' (HO_8.out) (Kd.S_typed HO_13.out) (by decide))).2.1)); rintro e w56 ⟨v293, rfl, ho0, hb⟩; refine ⟨_, rfl, ?_⟩; have n0_ := Aside0.mk (Kd.R_below (by (with_reducible repeat (first | apply Kd.R_alloc | apply Kd.R_drewN | apply Kd.R_drew)); first | exact HO_8.out | exact Kd.R_mono HO_8.out (fun _ h_ => by simp only [Kd.own_len] at h_ ⊢; exact h_)) hb); have n1_ := Aside0.mk (Kd.S_below (by (with_reducible repeat (first | apply Kd.S_alloc | apply Kd.S_drewN | apply Kd.S_drew)); exact HO_13.out) hb); have n2_ := Aside0.mk (Kd.V_lower (Kd.V_mono (ok' := fun k_ => some k_ ≠ (.slice Ao32 t276.length co32 : Value).ownBlock) ho0 (fun k_ hk_ => Or.elim hk_ (fun hs_ => ((Kd.R_apart' (HO_8.out) (Kd.S_typed HO_13.out) (by decide)).1 k_ hs_.symm).2) (fun hn_ => (Kd.fresh' (Kd.S_lt (by (with_reducible repeat (first | apply Kd.S_alloc | apply Kd.S_drewN | apply Kd.S_drew)); exact HO_13.out)) k_ hn_)))) (below_size (by repeat (first | (with_reducible first | exact HB.out | apply below_alloc | apply pw_below_drewN | apply below_drew1) | exact HB.out)))); have n3_ := Aside0.mk (Kd.C_below (by repeat (first | (with_reducible exact HR290.out) | (with_reducible refine Kd.C_alloc ?_ _) | (with_reducible refine Kd.C_drewN ?_ _) | (with_reducible refine Kd.C_drew ?_) | exact HR290.out)) hb); have n4_ := Aside0.mk (below_step (by repeat (first | (with_reducible first | exact HB.out | apply below_alloc | apply pw_below_drewN | apply below_drew1) | exact HB.out)) hb); clear HO_8; clear HO_13; clear HR290; clear HB; have HO_8 := n0_; have HO_13 := n1_; have HO294 := n2_; have HR290 := n3_; have HB := n4_; clear n0_ n1_ n2_ n3_ n4_; (try clear hb); (try clear hb2); (try clear hk); (try clear hi); (try clear ho0)))
                                      go_ret
                                      exact ⟨by first | rfl | (simp [errW_none, errW_some] <;> rfl) | (simp [*, errW_none, errW_some] <;> rfl), by repeat (first | (with_reducible first | exact HB.out | apply below_alloc | apply pw_below_drewN | apply below_drew1) | exact HB.out)⟩
                                    · rw [if_neg c54] at H
                                      exact absurd H (by simp)
                                  · rw [if_neg c53] at H
                                    exact absurd H (by simp)
                              · rw [if_neg c49] at H
                                have c49b0 : (t296 == 0) = false := beq_eq_false_iff_ne.mpr c49
                                have c49b1 : (t296 != 0) = true := bne_iff_ne.mpr c49
                                by_cases c57 : (t276.length : Int) = x9_1
                                · rw [if_pos c57] at H
                                  have c57b0 : ((t276.length : Int) == x9_1) = true := beq_iff_eq.mpr c57
                                  have c57b1 : ((t276.length : Int) != x9_1) = false := bne_eq_false_iff_eq.mpr c57
                                  clear c57
                                  by_cases c58 : t277 = (x8_1.length : Int)
                                  · rw [if_pos c58] at H
                                    have c58b0 : (t277 == (x8_1.length : Int)) = true := beq_iff_eq.mpr c58
                                    have c58b1 : (t277 != (x8_1.length : Int)) = false := bne_eq_false_iff_eq.mpr c58
                                    clear c58
                                    obtain rfl := Option.some.inj H
                                    have q59 : ((x8_1.length : Int) : Int) ≤ ((y273.length : Int) : Int) := of_decide_eq_true (by first | (with_reducible assumption) | assumption)
                                    obtain ⟨i059, hi059, _, hsz59, _⟩ := info_parts info5
                                    have hroom59 : y273.length ≤ co30 := (Kd.R_reads' HO_8.out).2.1
                                    have hC59 : Kd.C (Kd.int .u8) _ Ao30 y273.length y273 := (Kd.R_reads' HO_8.out).2.2
                                    have q059 : (0 : Int) ≤ ((x8_1.length : Int) : Int) := of_decide_eq_true (by first | (with_reducible assumption) | assumption)
                                    have hcut59 := cut_from (P := Try.prog) 22 5 .i64 Try.underlying22 hi059 1 hsz59 Ao30 y273.length co30 (x8_1.length : Int) q059 q59
                                    have hr59 := Kd.C_drop (m := ((x8_1.length : Int) : Int).toNat) (c := co30) hC59 (by omega) hroom59
                                    obtain ⟨A59, hA59⟩ : ∃ A1, A1 = (if co30 = ((x8_1.length : Int) : Int).toNat then Ao30 else (Ao30 : Option Addr).map (·.add (((x8_1.length : Int) : Int).toNat * 1))) := ⟨_, rfl⟩
                                    obtain ⟨c59, hc59⟩ : ∃ c1, c1 = co30 - ((x8_1.length : Int) : Int).toNat := ⟨_, rfl⟩
                                    have hy59 : y287.length = y273.length - ((x8_1.length : Int) : Int).toNat := (by rw [Ny287.out, List.length_drop] <;> omega)
                                    rw [show (y273).drop ((x8_1.length : Int) : Int).toNat = y287 from Ny287.out.symm] at hr59
                                    replace hr59 : Kd.C (Kd.int .u8) _ A59 y287.length y287 := (by rw [hA59]; exact hr59)
                                    rw [← hy59, ← hA59, ← hc59] at hcut59
                                    have HR290 := Aside0.mk hr59
                                    have HC290 := Aside0.mk (show y287.length ≤ c59 from by rw [hy59, hc59]; exact Nat.sub_le_sub_right hroom59 _)
                                    clear hr59 hC59 hroom59 hi059 hsz59 hc59
                                    have KY59 := Aside0.mk hy59
                                    have KA59 := Aside0.mk hA59
                                    clear hy59 hA59
                                    have KL59 := Aside0.mk (show ((x8_1.length : Int) : Int).toNat ≤ y273.length from by omega)
                                    replace q59 := eq_true q59
                                    go_wp2_with (first | ((with_reducible refine gate_callee (f := 16) rfl ?_); refine goesL_ (some 111) rfl rfl Try.func16 (by kernel_rfl) rfl #[.slice A59 y287.length c59] rfl (by (try simp only [List.map_toArray, List.map_cons, List.map_nil]); first | done | rfl | (simp only [List.length_drop, List.length_take]; rfl)) ?_; (with_reducible refine (donatusref1_Open.calls k3 (fun k_ => some k_ = (.slice Ao30 y273.length co30 : Value).ownBlock) _ _ y287 t291 t292 t295 t296 _ ?side1 A47.out).mono ?_); (case side1 => exact Kd.V_mk HC290.out (by rw [KA59.out, Ny287.out]; exact Kd.F_cut (c := co30) (Kd.V_F (Kd.R_V (e := 5) (base' := 0) (Kd.R_tight rfl (Kd.R_apart' (HO_8.out) (Kd.S_typed HO_13.out) (by decide))))) KL59.out (Kd.R_reads' (Kd.R_apart' (HO_8.out) (Kd.S_typed HO_13.out) (by decide))).2.1)); rintro e w60 ⟨v293, rfl, ho0, hb⟩; refine ⟨_, rfl, ?_⟩; have n0_ := Aside0.mk (Kd.R_below (by (with_reducible repeat (first | apply Kd.R_alloc | apply Kd.R_drewN | apply Kd.R_drew)); first | exact HO_8.out | exact Kd.R_mono HO_8.out (fun _ h_ => by simp only [Kd.own_len] at h_ ⊢; exact h_)) hb); have n1_ := Aside0.mk (Kd.S_below (by (with_reducible repeat (first | apply Kd.S_alloc | apply Kd.S_drewN | apply Kd.S_drew)); exact HO_13.out) hb); have n2_ := Aside0.mk (Kd.V_lower (Kd.V_mono (ok' := fun k_ => some k_ ≠ (.slice Ao32 t276.length co32 : Value).ownBlock) ho0 (fun k_ hk_ => Or.elim hk_ (fun hs_ => ((Kd.R_apart' (HO_8.out) (Kd.S_typed HO_13.out) (by decide)).1 k_ hs_.symm).2) (fun hn_ => (Kd.fresh' (Kd.S_lt (by (with_reducible repeat (first | apply Kd.S_alloc | apply Kd.S_drewN | apply Kd.S_drew)); exact HO_13.out)) k_ hn_)))) (below_size (by repeat (first | (with_reducible first | exact HB.out | apply below_alloc | apply pw_below_drewN | apply below_drew1) | exact HB.out)))); have n3_ := Aside0.mk (Kd.C_below (by repeat (first | (with_reducible exact HR290.out) | (with_reducible refine Kd.C_alloc ?_ _) | (with_reducible refine Kd.C_drewN ?_ _) | (with_reducible refine Kd.C_drew ?_) | exact HR290.out)) hb); have n4_ := Aside0.mk (below_step (by repeat (first | (with_reducible first | exact HB.out | apply below_alloc | apply pw_below_drewN | apply below_drew1) | exact HB.out)) hb); clear HO_8; clear HO_13; clear HR290; clear HB; have HO_8 := n0_; have HO_13 := n1_; have HO294 := n2_; have HR290 := n3_; have HB := n4_; clear n0_ n1_ n2_ n3_ n4_; (try clear hb); (try clear hb2); (try clear hk); (try clear hi); (try clear ho0)))
                                    go_ret
                                    exact ⟨by first | rfl | (simp [errW_none, errW_some] <;> rfl) | (simp [*, errW_none, errW_some] <;> rfl), by repeat (first | (with_reducible first | exact HB.out | apply below_alloc | apply pw_below_drewN | apply below_drew1) | exact HB.out)⟩
                                  · rw [if_neg c58] at H
                                    exact absurd H (by simp)
                                · rw [if_neg c57] at H
                                  exact absurd H (by simp)
                            · rw [if_neg c48] at H
                              have c48b0 : decide (x9_1 < (t276.length : Int)) = false := decide_eq_false c48
                              clear c48
                              by_cases c61 : (t276.length : Int) = x9_1
                              · rw [if_pos c61] at H
                                have c61b0 : ((t276.length : Int) == x9_1) = true := beq_iff_eq.mpr c61
                                have c61b1 : ((t276.length : Int) != x9_1) = false := bne_eq_false_iff_eq.mpr c61
                                clear c61
                                by_cases c62 : t277 = (x8_1.length : Int)
                                · rw [if_pos c62] at H
                                  have c62b0 : (t277 == (x8_1.length : Int)) = true := beq_iff_eq.mpr c62
                                  have c62b1 : (t277 != (x8_1.length : Int)) = false := bne_eq_false_iff_eq.mpr c62
                                  clear c62
                                  obtain rfl := Option.some.inj H
                                  have q63 : ((x8_1.length : Int) : Int) ≤ ((y273.length : Int) : Int) := of_decide_eq_true (by first | (with_reducible assumption) | assumption)
                                  obtain ⟨i063, hi063, _, hsz63, _⟩ := info_parts info5
                                  have hroom63 : y273.length ≤ co30 := (Kd.R_reads' HO_8.out).2.1
                                  have hC63 : Kd.C (Kd.int .u8) _ Ao30 y273.length y273 := (Kd.R_reads' HO_8.out).2.2
                                  have q063 : (0 : Int) ≤ ((x8_1.length : Int) : Int) := of_decide_eq_true (by first | (with_reducible assumption) | assumption)
                                  have hcut63 := cut_from (P := Try.prog) 22 5 .i64 Try.underlying22 hi063 1 hsz63 Ao30 y273.length co30 (x8_1.length : Int) q063 q63
                                  have hr63 := Kd.C_drop (m := ((x8_1.length : Int) : Int).toNat) (c := co30) hC63 (by omega) hroom63
                                  obtain ⟨A63, hA63⟩ : ∃ A1, A1 = (if co30 = ((x8_1.length : Int) : Int).toNat then Ao30 else (Ao30 : Option Addr).map (·.add (((x8_1.length : Int) : Int).toNat * 1))) := ⟨_, rfl⟩
                                  obtain ⟨c63, hc63⟩ : ∃ c1, c1 = co30 - ((x8_1.length : Int) : Int).toNat := ⟨_, rfl⟩
                                  have hy63 : y287.length = y273.length - ((x8_1.length : Int) : Int).toNat := (by rw [Ny287.out, List.length_drop] <;> omega)
                                  rw [show (y273).drop ((x8_1.length : Int) : Int).toNat = y287 from Ny287.out.symm] at hr63
                                  replace hr63 : Kd.C (Kd.int .u8) _ A63 y287.length y287 := (by rw [hA63]; exact hr63)
                                  rw [← hy63, ← hA63, ← hc63] at hcut63
                                  have HR290 := Aside0.mk hr63
                                  have HC290 := Aside0.mk (show y287.length ≤ c63 from by rw [hy63, hc63]; exact Nat.sub_le_sub_right hroom63 _)
                                  clear hr63 hC63 hroom63 hi063 hsz63 hc63
                                  have KY63 := Aside0.mk hy63
                                  have KA63 := Aside0.mk hA63
                                  clear hy63 hA63
                                  have KL63 := Aside0.mk (show ((x8_1.length : Int) : Int).toNat ≤ y273.length from by omega)
                                  replace q63 := eq_true q63
                                  go_wp2_with (first | ((with_reducible refine gate_callee (f := 16) rfl ?_); refine goesL_ (some 111) rfl rfl Try.func16 (by kernel_rfl) rfl #[.slice A63 y287.length c63] rfl (by (try simp only [List.map_toArray, List.map_cons, List.map_nil]); first | done | rfl | (simp only [List.length_drop, List.length_take]; rfl)) ?_; (with_reducible refine (donatusref1_Open.calls k3 (fun k_ => some k_ = (.slice Ao30 y273.length co30 : Value).ownBlock) _ _ y287 t291 t292 t295 t296 _ ?side1 A47.out).mono ?_); (case side1 => exact Kd.V_mk HC290.out (by rw [KA63.out, Ny287.out]; exact Kd.F_cut (c := co30) (Kd.V_F (Kd.R_V (e := 5) (base' := 0) (Kd.R_tight rfl (Kd.R_apart' (HO_8.out) (Kd.S_typed HO_13.out) (by decide))))) KL63.out (Kd.R_reads' (Kd.R_apart' (HO_8.out) (Kd.S_typed HO_13.out) (by decide))).2.1)); rintro e w64 ⟨v293, rfl, ho0, hb⟩; refine ⟨_, rfl, ?_⟩; have n0_ := Aside0.mk (Kd.R_below (by (with_reducible repeat (first | apply Kd.R_alloc | apply Kd.R_drewN | apply Kd.R_drew)); first | exact HO_8.out | exact Kd.R_mono HO_8.out (fun _ h_ => by simp only [Kd.own_len] at h_ ⊢; exact h_)) hb); have n1_ := Aside0.mk (Kd.S_below (by (with_reducible repeat (first | apply Kd.S_alloc | apply Kd.S_drewN | apply Kd.S_drew)); exact HO_13.out) hb); have n2_ := Aside0.mk (Kd.V_lower (Kd.V_mono (ok' := fun k_ => some k_ ≠ (.slice Ao32 t276.length co32 : Value).ownBlock) ho0 (fun k_ hk_ => Or.elim hk_ (fun hs_ => ((Kd.R_apart' (HO_8.out) (Kd.S_typed HO_13.out) (by decide)).1 k_ hs_.symm).2) (fun hn_ => (Kd.fresh' (Kd.S_lt (by (with_reducible repeat (first | apply Kd.S_alloc | apply Kd.S_drewN | apply Kd.S_drew)); exact HO_13.out)) k_ hn_)))) (below_size (by repeat (first | (with_reducible first | exact HB.out | apply below_alloc | apply pw_below_drewN | apply below_drew1) | exact HB.out)))); have n3_ := Aside0.mk (Kd.C_below (by repeat (first | (with_reducible exact HR290.out) | (with_reducible refine Kd.C_alloc ?_ _) | (with_reducible refine Kd.C_drewN ?_ _) | (with_reducible refine Kd.C_drew ?_) | exact HR290.out)) hb); have n4_ := Aside0.mk (below_step (by repeat (first | (with_reducible first | exact HB.out | apply below_alloc | apply pw_below_drewN | apply below_drew1) | exact HB.out)) hb); clear HO_8; clear HO_13; clear HR290; clear HB; have HO_8 := n0_; have HO_13 := n1_; have HO294 := n2_; have HR290 := n3_; have HB := n4_; clear n0_ n1_ n2_ n3_ n4_; (try clear hb); (try clear hb2); (try clear hk); (try clear hi); (try clear ho0)))
                                  go_ret
                                  exact ⟨by first | rfl | (simp [errW_none, errW_some] <;> rfl) | (simp [*, errW_none, errW_some] <;> rfl), by repeat (first | (with_reducible first | exact HB.out | apply below_alloc | apply pw_below_drewN | apply below_drew1) | exact HB.out)⟩
                                · rw [if_neg c62] at H
                                  exact absurd H (by simp)
                              · rw [if_neg c61] at H
                                exact absurd H (by simp)
                          · rw [if_neg c46] at H
                            exact absurd H (by simp)
                        · rw [if_neg c45] at H
                          exact absurd H (by simp)
              · rw [if_neg c23] at H
                exact absurd H (by simp)
  · replace c5 := Bool.eq_false_iff.mpr c5
    subst c5
    have H1 : (none) = some r := by rw [if_neg (show ¬ (false = true) by decide)] at H; exact H
    clear H
    have H := H1
    clear H1
    exact absurd H (by simp)

/-- THE ONE PURE STATEMENT of donatuslaw16_FrameAll: yours. -/
def donatuslaw16_FrameAll.Pure : Prop := ∀ (l0 : List (List Int)) (l1 : List Int) (l2 : List Int), (l0.length ≤ maxLen ∧ l0.length * 24 ≤ 140737488351232 ∧ ∀ y0_ ∈ l0, (y0_.length ≤ maxLen ∧ y0_.length * 1 ≤ 140737488351232 ∧ ∀ y1_ ∈ y0_, (Lit.int .u8 y1_).wf = true)) → (l1.length ≤ maxLen ∧ l1.length * 8 ≤ 140737488351232 ∧ ∀ y0_ ∈ l1, (Lit.int .i64 y0_).wf = true) → (l2.length ≤ maxLen ∧ l2.length * 1 ≤ 140737488351232 ∧ ∀ y0_ ∈ l2, (Lit.int .u8 y0_).wf = true) → ∃ k, donatuslaw16_FrameAll.f k l0 l1 l2 = some true
theorem donatuslaw16_FrameAll.walk (P : donatuslaw16_FrameAll.Pure) (A0 : Option Addr) (c0 : Nat) (l0 : List (List Int)) (A1 : Option Addr) (c1 : Nat) (l1 : List Int) (A2 : Option Addr) (c2 : Nat) (l2 : List Int) (w : World) (hr0 : Kd.C (Kd.slice 5 (Kd.int .u8)) w A0 l0.length l0) (hc0 : l0.length ≤ c0) (hr1 : Kd.C (Kd.int .i64) w A1 l1.length l1) (hc1 : l1.length ≤ c1) (hr2 : Kd.C (Kd.int .u8) w A2 l2.length l2) (hc2 : l2.length ≤ c2) (w0 : (l0.length ≤ maxLen ∧ l0.length * 24 ≤ 140737488351232 ∧ ∀ y0_ ∈ l0, (y0_.length ≤ maxLen ∧ y0_.length * 1 ≤ 140737488351232 ∧ ∀ y1_ ∈ y0_, (Lit.int .u8 y1_).wf = true))) (w1 : (l1.length ≤ maxLen ∧ l1.length * 8 ≤ 140737488351232 ∧ ∀ y0_ ∈ l1, (Lit.int .i64 y0_).wf = true)) (w2 : (l2.length ≤ maxLen ∧ l2.length * 1 ≤ 140737488351232 ∧ ∀ y0_ ∈ l2, (Lit.int .u8 y0_).wf = true)) :
    Calls Try.prog 5 #[.slice A0 l0.length c0, .slice A1 l1.length c1, .slice A2 l2.length c2] w fun e w' => e = .returned (.bool true) ∧ Below w.heap.size w w' := by
  obtain ⟨k, h⟩ := P l0 l1 l2 w0 w1 w2
  refine (donatuslaw16_FrameAll.calls k _ _ l0 _ _ l1 _ _ l2 true w hr0 hc0 hr1 hc1 hr2 hc2 h).mono ?_
  rintro e w' ⟨rfl, hd⟩
  exact ⟨rfl, hd⟩

end Go.Proofs.Ytjnhlbelpflobab.PFrameAll
