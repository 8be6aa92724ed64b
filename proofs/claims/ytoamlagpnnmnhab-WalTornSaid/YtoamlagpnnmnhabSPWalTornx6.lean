-- Written for this claim by a program of this seat (a turned copy of the printer)
import Derived.Test.YtoamlagpnnmnhabSPWalTornx0
import Derived.Test.YtoamlagpnnmnhabSPWalTornx3
import Derived.Test.YtoamlagpnnmnhabSPWalTornx4
import Derived.Test.YtoamlagpnnmnhabSPWalTornx5
namespace Go.Proofs.Ytoamlagpnnmnhab.PWalTorn
open Go.RowKit Go.Proofs.YtoamlagpnnmnhabW.PrintWords Go.Proofs.YtoamlagpnnmnhabW.PrintLast Go.Proofs.YtoamlagpnnmnhabW.PrintMore
attribute [local go_sem] max2_int min2_int max_two min_two max_three min_three max_four min_four   -- for this text's walks alone
set_option linter.unusedVariables false
set_option linter.unusedSimpArgs false

/-! ### wal_reader_num: function 39, by hand -/
/-- A reader of bytes at block g: what is left, and whether something did not go. -/
def IsRd (T : Nat) (P : Nat → Prop) (w : World) (g : Nat) (l : List Int) (bad : Bool) : Prop :=
  ∃ A c, w.heap[g]? = some (.cells #[.slice A l.length c, .bool bad] T (0, 0)) ∧ l.length ≤ c ∧ Kd.F (Kd.int .u8) w P A l.length l
def RdPost (T : Nat) (P : Nat → Prop) (w : World) (g : Nat) (v : Value) (l : List Int) (bad : Bool) (e : Ending) (w' : World) : Prop :=
  e = .returned v ∧ IsRd T P w' g l bad ∧ Kept w w' (fun k => k = g) ∧ ∀ N, N ≤ g → N ≤ w.heap.size → Below N w w'
theorem rd_end {T : Nat} {P : Nat → Prop} {w w5 w' : World} {g : Nat} {l l' : List Int} {bad : Bool} {A A' : Option Addr} {c' : Nat} {v : Value} (hb : Below w.heap.size w w5) (hF : Kd.F (Kd.int .u8) w P A l.length l) (hP : ¬ P g)
    (hk : Kept w5 w' (fun k => k = g)) (hbel : ∀ N, N ≤ g → Below N w w5 → Below N w w') (hc' : l'.length ≤ c') (hg : w'.heap[g]? = some (.cells #[.slice A' l'.length c', .bool bad] T (0, 0))) (hF' : Kd.F (Kd.int .u8) w P A' l'.length l') : RdPost T P w g v l' bad (.returned v) w' :=
  ⟨rfl, ⟨A', c', hg, hc', Kd.F_kept (Kd.F_below hF' hb) hk (fun k hk hg => hP (hg ▸ hk))⟩, (Kept.of_below hb _).then_ hk (fun k hk => .inl hk), fun N h1 h2 => hbel N h1 (hb.mono h2)⟩
theorem kept_set (w : World) (g i : Nat) (u : Value) : Kept w (w.setCell ⟨g, i, none⟩ u) (fun k => k = g) := by
  refine ⟨by simp, fun k hk hne => Below.heap_setCell w _ u k hne⟩
theorem kept_set2 (w : World) (g i j : Nat) (u v : Value) : Kept w ((w.setCell ⟨g, i, none⟩ u).setCell ⟨g, j, none⟩ v) (fun k => k = g) := (kept_set w g i u).then_ (kept_set _ g j v) (fun _ h => .inl h)
theorem num_walk {P : Nat → Prop} {g : Nat} {l : List Int} {bad : Bool} {w : World} (hs : IsRd 78 P w g l bad) (hP : ¬ P g) {k : Nat} {x n e : Int} (h : num_Get.f k l = some (x, n, e)) (hn : e = 0 → 0 ≤ n ∧ n ≤ l.length) :
    Calls Try.prog 39 #[.pointer (some ⟨g, 0, none⟩)] w (RdPost 78 P w g (.int .i64 x) (if bad = true ∨ e ≠ 0 then l else l.drop n.toNat) (bad || !(e == 0))) := by
  obtain ⟨A, c, hg, hc, hF⟩ := hs
  have hr := Kd.F_now hF
  by_cases hbad : bad = true
  · subst hbad
    rw [if_pos (.inl rfl), Bool.true_or]
    have h0 := blk_cell hg 0
    have h1 := blk_cell hg 1
    simp at h0 h1
    go_enter Try.func39, Try.ntmps39
    go_wp2_with (go_at_call 50; refine (num_Get.calls k A c l x n e _ ?_ hc h).mono ?_; rotate_left; rintro e w5 ⟨rfl, hd⟩; have hg5 := blk_below hg hd.below; have h05 := blk_cell hg5 0; have h15 := blk_cell hg5 1; have f05 := blk_frozen hg5 0; have f15 := blk_frozen hg5 1; simp at h05 h15)
    · go_ret
      exact rd_end hd.below hF hP (kept_set _ _ _ _) (fun N hN h => h.setCell hN _) hc (by simpa using blk_set hg5 1 (.bool true)) hF
    · exact hr
  · replace hbad := Bool.eq_false_iff.2 hbad
    subst hbad
    rw [Bool.false_or]
    have h0 := blk_cell hg 0
    have h1 := blk_cell hg 1
    simp at h0 h1
    by_cases he : e = 0
    · subst he
      obtain ⟨hn0, hn1⟩ := hn rfl
      rw [if_neg (by simp), show (!((0 : Int) == 0)) = false from rfl]
      have hF2 := Kd.F_cut (m := n.toNat) (c := c) hF (by omega) hc
      have hl2 : (l.drop n.toNat).length = l.length - n.toNat := List.length_drop
      go_enter Try.func39, Try.ntmps39
      go_wp2_with (go_at_call 50; refine (num_Get.calls k A c l x n 0 _ ?_ hc h).mono ?_; rotate_left; rintro e w5 ⟨rfl, hd⟩; have hg5 := blk_below hg hd.below; have h05 := blk_cell hg5 0; have h15 := blk_cell hg5 1; have f05 := blk_frozen hg5 0; have f15 := blk_frozen hg5 1; simp at h05 h15)
      all_goals first | exact hr | skip
      · go_ret
        refine rd_end (A' := A) (c' := 0) hd.below hF hP (kept_set2 _ _ _ _ _ _) (fun N hN h => (h.setCell hN _).setCell hN _) (by omega) (by rw [hl2]; simpa using blk_set (blk_set hg5 1 (.bool false)) 0 (.slice A (l.length - n.toNat) 0)) (by rw [if_pos (by assumption)] at hF2; exact hF2)
      · go_ret
        refine rd_end (A' := A.map (·.add n.toNat)) (c' := c - n.toNat) hd.below hF hP (kept_set2 _ _ _ _ _ _) (fun N hN h => (h.setCell hN _).setCell hN _) (by omega) (by rw [hl2]; simpa using blk_set (blk_set hg5 1 (.bool false)) 0 (.slice (A.map (·.add n.toNat)) (l.length - n.toNat) (c - n.toNat))) ?_
        rw [if_neg (by assumption)] at hF2
        simpa [Kd.int, Kd.scalar] using hF2
    · have hne : (e == 0) = false := by simpa using he
      have hne2 : (e != 0) = true := by simpa using he
      rw [if_pos (.inr he), hne]
      go_enter Try.func39, Try.ntmps39
      go_wp2_with (go_at_call 50; refine (num_Get.calls k A c l x n e _ ?_ hc h).mono ?_; rotate_left; rintro e w5 ⟨rfl, hd⟩; have hg5 := blk_below hg hd.below; have h05 := blk_cell hg5 0; have h15 := blk_cell hg5 1; have f05 := blk_frozen hg5 0; have f15 := blk_frozen hg5 1; simp at h05 h15)
      all_goals first | exact hr | skip
      · go_ret
        exact rd_end hd.below hF hP (kept_set _ _ _ _) (fun N hN h => h.setCell hN _) hc (by simpa using blk_set hg5 1 (.bool true)) hF
/-- A number off a reader, a text off it: what is read, what is left, whether something did not go. -/
def rdNum (k : Nat) (l : List Int) (bad : Bool) : Option (Int × List Int × Bool) :=
  (num_Get.f k l).bind fun q => if q.2.2 = 0 then (if 0 ≤ q.2.1 ∧ q.2.1 ≤ l.length then some (q.1, if bad = true then (l, true) else (l.drop q.2.1.toNat, false)) else none) else some (q.1, l, true)
theorem rdNum.mono (l : List Int) (bad : Bool) (k : Nat) : LeO (rdNum k l bad) (rdNum (k + 1) l bad) := by
  unfold rdNum
  exact LeO.bind (num_Get.mono _ _) (fun _ => LeO.refl _)
theorem num_call {P : Nat → Prop} {g : Nat} {l : List Int} {bad : Bool} {w : World} (hs : IsRd 78 P w g l bad) (hP : ¬ P g) {k : Nat} {x : Int} {l' : List Int} {bad' : Bool} (h : rdNum k l bad = some (x, l', bad')) :
    Calls Try.prog 39 #[.pointer (some ⟨g, 0, none⟩)] w (RdPost 78 P w g (.int .i64 x) l' bad') := by
  unfold rdNum at h
  obtain ⟨⟨x0, n, e⟩, h1, h2⟩ := Option.bind_eq_some_iff.1 h
  by_cases he : e = 0
  · subst he
    simp only [if_true] at h2
    by_cases hn : 0 ≤ n ∧ n ≤ l.length
    · rw [if_pos hn] at h2
      have h3 := num_walk hs hP h1 (fun _ => hn)
      cases bad <;> simp at h2 h3 <;> obtain ⟨rfl, rfl, rfl⟩ := h2 <;> exact h3
    · rw [if_neg hn] at h2; cases h2
  · simp only [he, if_false] at h2
    have h3 := num_walk hs hP h1 (fun h0 => absurd h0 he)
    simp [he] at h2 h3
    obtain ⟨rfl, rfl, rfl⟩ := h2
    rw [show (e == 0) = false by simpa using he] at h3
    simpa using h3
theorem kept_blk {w w' : World} {g b : Nat} {o : Obj} (hk : Kept w w' (fun k => k = g)) (h : w.heap[b]? = some o) (hne : b ≠ g) : w'.heap[b]? = some o := (hk.2 b (blk_lt h) hne).trans h
theorem IsRd.far {T : Nat} {P : Nat → Prop} {w : World} {g b i : Nat} {l : List Int} {bad : Bool} {u : Value} (h : IsRd T P w g l bad) (hg : g ≠ b) (hP : ¬ P b) : IsRd T P (w.setCell ⟨b, i, none⟩ u) g l bad := by
  obtain ⟨A, c, h1, h2, h3⟩ := h
  exact ⟨A, c, blk_far h1 hg u, h2, Kd.F_far h3 (p := ⟨b, i, none⟩) (fun k hk e => hP ((show k = b from e) ▸ hk)) u⟩
theorem below_setb {N b i : Nat} {w w' : World} {v : Value} (h : Below N w w') (hb : N ≤ b) : Below N w (w'.setCell ⟨b, i, none⟩ v) := h.setCell hb v
def DecPost (w : World) (v : Value) (e : Ending) (w' : World) : Prop := e = .returned v ∧ Below w.heap.size w w'


/-! ### num_GetText: function 51 -/
def num_GetText.j0 : Nat → List Int → Int → Int → Bool → Option (ByteArray × Int × Int)
  | 0, _, _, _, _ => none
  | k + 1, x0, x5, x6, x18 => if x18 = true then (some ((⟨#[]⟩ : ByteArray), 0, 1)) else (if x5 > (wrap64 ((x0.length : Int) - x6)) then (some ((⟨#[]⟩ : ByteArray), 0, 2)) else (if 0 ≤ x6 then (if x6 ≤ (wrap64 (x6 + x5)) then (if (wrap64 (x6 + x5)) ≤ (x0.length : Int) then (some (strOfNums ((x0.take ((wrap64 (x6 + x5)) : Int).toNat).drop (x6 : Int).toNat), wrap64 (x6 + x5), 0)) else (none)) else (none)) else (none)))
def num_GetText.f (k : Nat) (l0 : List Int) : Option (ByteArray × Int × Int) := (num_Get.f k l0).bind fun bt189 => (if bt189.2.2 = 0 then (if bt189.1 < 0 then (num_GetText.j0 k l0 bt189.1 bt189.2.1 true) else (num_GetText.j0 k l0 bt189.1 bt189.2.1 (decide (bt189.1 > 1048576)))) else (some ((⟨#[]⟩ : ByteArray), 0, bt189.2.2)))
theorem num_GetText.mono_l : ∀ k, (∀ y0 y1 y2 y3, LeO (num_GetText.j0 k y0 y1 y2 y3) (num_GetText.j0 (k + 1) y0 y1 y2 y3))
  | 0 => fun _ _ _ _ r h => by simp [num_GetText.j0] at h
  | k + 1 => by
    have ih0 := num_GetText.mono_l k
    · intro y0 y1 y2 y3
      unfold num_GetText.j0
      repeat' first
      | (with_reducible exact ih0 _ _ _ _)
      | (with_reducible exact num_Get.mono _ _)
      | (with_reducible exact LeO.refl _)
      | (with_reducible exact LeO.none _)
      | (with_reducible refine LeO.ite ?_ ?_)
      | (with_reducible refine LeO.bind ?_ (fun _ => ?_))
      | exact ih0 _ _ _ _
      | exact num_Get.mono _ _
      | exact LeO.none _
      | refine LeO.ite ?_ ?_
      | refine LeO.bind ?_ (fun _ => ?_)
theorem num_GetText.mono : ∀ a0 k, LeO (num_GetText.f k a0) (num_GetText.f (k + 1) a0) := by
  intro a0 k
  have ih0 := num_GetText.mono_l k
  unfold num_GetText.f
  repeat' first
      | (with_reducible exact ih0 _ _ _ _)
      | (with_reducible exact num_Get.mono _ _)
      | (with_reducible exact LeO.refl _)
      | (with_reducible exact LeO.none _)
      | (with_reducible refine LeO.ite ?_ ?_)
      | (with_reducible refine LeO.bind ?_ (fun _ => ?_))
      | exact ih0 _ _ _ _
      | exact num_Get.mono _ _
      | exact LeO.none _
      | refine LeO.ite ?_ ?_
      | refine LeO.bind ?_ (fun _ => ?_)
set_option maxHeartbeats 8000000 in
set_option maxRecDepth 100000 in
theorem num_GetText.calls (k : Nat) (A0 : Option Addr) (c0 : Nat) (l0 : List Int) (r1 : ByteArray) (r2 : Int) (r3 : Int) (w : World) (hr0 : Kd.C (Kd.int .u8) w A0 l0.length l0) (hc0 : l0.length ≤ c0) (h : num_GetText.f k l0 = some (r1, r2, r3)) :
    Calls Try.prog 51 #[.slice A0 l0.length c0] w fun e w' => e = .returned (.tuple #[.string r1, .int .i64 r2, .int .i64 r3]) ∧ Drawn0 w w' := by
  have HR0 := Aside0.mk hr0
  have HC0 := Aside0.mk hc0
  clear hr0 hc0
  have H : ((num_Get.f k l0).bind fun bt189 => (if bt189.2.2 = 0 then (if bt189.1 < 0 then (num_GetText.j0 k l0 bt189.1 bt189.2.1 true) else (num_GetText.j0 k l0 bt189.1 bt189.2.1 (decide (bt189.1 > 1048576)))) else (some ((⟨#[]⟩ : ByteArray), 0, bt189.2.2)))) = some (r1, r2, r3) := h
  clear h
  replace H := Option.bind_eq_some_iff.mp H
  obtain ⟨⟨t189, t190, t191⟩, A20, H⟩ := H
  replace H : (if t191 = 0 then (if t189 < 0 then (num_GetText.j0 k l0 t189 t190 true) else (num_GetText.j0 k l0 t189 t190 (decide (t189 > 1048576)))) else (some ((⟨#[]⟩ : ByteArray), 0, t191))) = some (r1, r2, r3) := H
  have A2 := Aside0.mk A20
  clear A20
  by_cases c3 : t191 = 0
  · rw [if_pos c3] at H
    have c3b0 : (t191 == 0) = true := beq_iff_eq.mpr c3
    have c3b1 : (t191 != 0) = false := bne_eq_false_iff_eq.mpr c3
    clear c3
    have HC4 := Aside0.mk H
    clear H
    go_enter Try.func51, Try.ntmps51
    go_upto_region 4 with (first | ((with_reducible refine gate_callee (f := 50) rfl ?_); refine goesL_ (some 10) rfl rfl Try.func50 (by kernel_rfl) rfl #[.slice A0 l0.length c0] rfl (by (try simp only [List.map_toArray, List.map_cons, List.map_nil]); first | done | rfl | (simp only [List.length_drop, List.length_take]; rfl)) ?_; (with_reducible refine (num_Get.calls k _ _ l0 t189 t190 t191 _ ?side1 ?side2 A2.out).mono ?_); (case side1 => repeat (first | exact HR0.out | (with_reducible refine Kd.C_alloc ?_ _) | (with_reducible refine Kd.C_drewN ?_ _) | (with_reducible refine Kd.C_drew ?_))); (case side2 => exact HC0.out); rintro e w' ⟨rfl, ⟨nd, rfl⟩⟩; refine ⟨_, rfl, ?_⟩))
    (try simp only [Act.put, List.setIfInBounds_toArray, List.set_cons_zero, List.set_cons_succ])
    go_cut [18] (fun v18 wc => ∃ (kq : Nat) (x18_3 : Bool), v18 = .bool x18_3 ∧ Aside0 (num_GetText.j0 kq l0 t189 t190 x18_3 = some (r1, r2, r3)) ∧ Aside0 (kq ≤ k) ∧ Drawn0 w wc)
    case first =>
      have H := HC4.out
      clear HC4
      by_cases c5 : t189 < 0
      · rw [if_pos c5] at H
        have c5b0 : decide (t189 < 0) = true := decide_eq_true c5
        clear c5
        (first | rw [c5b0] | (simp only [i64_w, i32_w]; rw [c5b0]) | skip)
        have H' := Aside0.mk H
        clear H
        go_wp2
        go_meet
        case rel => exact ⟨_, (true), (by first | rfl | (simp; done) | (simp [*]; done)), H', ⟨by first | omega | exact Nat.le_refl _⟩, by repeat (first | exact Drawn0.refl _ | apply Drawn0.step)⟩
      · rw [if_neg c5] at H
        have c5b0 : decide (t189 < 0) = false := decide_eq_false c5
        clear c5
        (first | rw [c5b0] | (simp only [i64_w, i32_w]; rw [c5b0]) | skip)
        have H' := Aside0.mk H
        clear H
        go_wp2
        go_meet
        case rel => exact ⟨_, (decide (t189 > 1048576)), (by first | rfl | (simp; done) | (simp [*]; done)), H', ⟨by first | omega | exact Nat.le_refl _⟩, by repeat (first | exact Drawn0.refl _ | apply Drawn0.step)⟩
    case rest =>
      clear HC4
      try clear p2
      try clear c3
      try clear c3b0
      try clear c3b1
      try clear c5
      try clear c5b0
      obtain ⟨kq, x18_3, rfl, HA, HJ3, ⟨mc3, rfl⟩⟩ := hcut
      cases kq with
      | zero => exact absurd HA.out (by simp [num_GetText.j0])
      | succ kj3 =>
        have H := HA.out
        clear HA
        simp only [num_GetText.j0] at H
        by_cases c6 : x18_3 = true
        · subst c6
          have H1 : (some ((⟨#[]⟩ : ByteArray), 0, 1)) = some (r1, r2, r3) := by rw [if_pos rfl] at H; exact H
          clear H
          have H := H1
          clear H1
          simp only [Option.some.injEq, Prod.mk.injEq] at H
          obtain ⟨rfl, rfl, rfl⟩ := H
          go_wp2
          go_ret3
          exact ⟨by first | rfl | (simp; done) | (simp [*]; done), by repeat (first | exact Drawn0.refl _ | apply Drawn0.step)⟩
        · replace c6 := Bool.eq_false_iff.mpr c6
          subst c6
          have H1 : (if t189 > (wrap64 ((l0.length : Int) - t190)) then (some ((⟨#[]⟩ : ByteArray), 0, 2)) else (if 0 ≤ t190 then (if t190 ≤ (wrap64 (t190 + t189)) then (if (wrap64 (t190 + t189)) ≤ (l0.length : Int) then (some (strOfNums ((l0.take ((wrap64 (t190 + t189)) : Int).toNat).drop (t190 : Int).toNat), wrap64 (t190 + t189), 0)) else (none)) else (none)) else (none))) = some (r1, r2, r3) := by rw [if_neg (show ¬ (false = true) by decide)] at H; exact H
          clear H
          have H := H1
          clear H1
          by_cases c7 : t189 > (wrap64 ((l0.length : Int) - t190))
          · rw [if_pos c7] at H
            have c7b0 : decide ((wrap64 ((l0.length : Int) - t190)) < t189) = true := decide_eq_true c7
            clear c7
            simp only [Option.some.injEq, Prod.mk.injEq] at H
            obtain ⟨rfl, rfl, rfl⟩ := H
            go_wp2
            go_ret3
            exact ⟨by first | rfl | (simp; done) | (simp [*]; done), by repeat (first | exact Drawn0.refl _ | apply Drawn0.step)⟩
          · rw [if_neg c7] at H
            have c7b0 : decide ((wrap64 ((l0.length : Int) - t190)) < t189) = false := decide_eq_false c7
            clear c7
            by_cases c8 : 0 ≤ t190
            · rw [if_pos c8] at H
              have c8b0 := eq_true c8
              have c8b1 : decide (0 ≤ t190) = true := decide_eq_true c8
              clear c8
              by_cases c9 : t190 ≤ (wrap64 (t190 + t189))
              · rw [if_pos c9] at H
                have c9b0 := eq_true c9
                have c9b1 : decide (t190 ≤ (wrap64 (t190 + t189))) = true := decide_eq_true c9
                by_cases c10 : (wrap64 (t190 + t189)) ≤ (l0.length : Int)
                · rw [if_pos c10] at H
                  have c10b0 := eq_true c10
                  have c10b1 : decide ((wrap64 (t190 + t189)) ≤ (l0.length : Int)) = true := decide_eq_true c10
                  simp only [Option.some.injEq, Prod.mk.injEq] at H
                  obtain ⟨rfl, rfl, rfl⟩ := H
                  obtain ⟨i011, hi011, _, hsz11, _⟩ := info_parts info5
                  obtain ⟨A11, hcut11, hA11, hC11⟩ := print_mid_of (P := Try.prog) (Value.int .u8) 0 30 5 .i64 .i64 Try.underlying30 hi011 hsz11 A0 c0 l0 t190 (wrap64 (t190 + t189)) (of_decide_eq_true (by first | (with_reducible assumption) | assumption)) (by first | omega | exact of_decide_eq_true (by first | (with_reducible assumption) | assumption)) (of_decide_eq_true (by first | (with_reducible assumption) | assumption)) HC0.out
                  have HR192 := Aside0.mk (Kd.C_of_reads (h1 := fun _ => rfl) (hA11 _ (Kd.reads_of_C HR0.out)))
                  have HC192 := Aside0.mk hC11
                  clear hA11 hC11 hi011 hsz11
                  have hcv12 := Kd.C_string (P := Try.prog) (A := A11) (c := (c0 - t190.toNat)) Try.underlying30 Try.underlying5 Try.underlying9 HR192.out
                  have hcv13 := Kd.C_string_as (P := Try.prog) (A := A11) (c := (c0 - t190.toNat)) Try.underlying30 Try.underlying5 Try.underlying9 HR192.out
                  have hcv14 := Kd.C_string_at (P := Try.prog) (A := A11) (c := (c0 - t190.toNat)) Try.underlying30 Try.underlying5 Try.underlying9 HR192.out
                  go_wp2
                  go_ret3
                  exact ⟨by first | rfl | (simp; done) | (simp [*]; done), by repeat (first | exact Drawn0.refl _ | apply Drawn0.step)⟩
                · rw [if_neg c10] at H
                  exact absurd H (by simp)
              · rw [if_neg c9] at H
                exact absurd H (by simp)
            · rw [if_neg c8] at H
              exact absurd H (by simp)
  · rw [if_neg c3] at H
    have c3b0 : (t191 == 0) = false := beq_eq_false_iff_ne.mpr c3
    have c3b1 : (t191 != 0) = true := bne_iff_ne.mpr c3
    simp only [Option.some.injEq, Prod.mk.injEq] at H
    obtain ⟨rfl, rfl, rfl⟩ := H
    go_enter Try.func51, Try.ntmps51
    go_wp2_with (first | ((with_reducible refine gate_callee (f := 50) rfl ?_); refine goesL_ (some 10) rfl rfl Try.func50 (by kernel_rfl) rfl #[.slice A0 l0.length c0] rfl (by (try simp only [List.map_toArray, List.map_cons, List.map_nil]); first | done | rfl | (simp only [List.length_drop, List.length_take]; rfl)) ?_; (with_reducible refine (num_Get.calls k _ _ l0 t189 t190 t191 _ ?side1 ?side2 A2.out).mono ?_); (case side1 => repeat (first | exact HR0.out | (with_reducible refine Kd.C_alloc ?_ _) | (with_reducible refine Kd.C_drewN ?_ _) | (with_reducible refine Kd.C_drew ?_))); (case side2 => exact HC0.out); rintro e w' ⟨rfl, ⟨nd, rfl⟩⟩; refine ⟨_, rfl, ?_⟩))
    go_ret3
    exact ⟨by first | rfl | (simp; done) | (simp [*]; done), by repeat (first | exact Drawn0.refl _ | apply Drawn0.step)⟩

/-! ### wal_reader_text: function 40, by hand -/
theorem text_walk {P : Nat → Prop} {g : Nat} {l : List Int} {bad : Bool} {w : World} (hs : IsRd 78 P w g l bad) (hP : ¬ P g) {k : Nat} {x : ByteArray} {n e : Int} (h : num_GetText.f k l = some (x, n, e)) (hn : e = 0 → 0 ≤ n ∧ n ≤ l.length) :
    Calls Try.prog 40 #[.pointer (some ⟨g, 0, none⟩)] w (RdPost 78 P w g (.string x) (if bad = true ∨ e ≠ 0 then l else l.drop n.toNat) (bad || !(e == 0))) := by
  obtain ⟨A, c, hg, hc, hF⟩ := hs
  have hr := Kd.F_now hF
  by_cases hbad : bad = true
  · subst hbad
    rw [if_pos (.inl rfl), Bool.true_or]
    have h0 := blk_cell hg 0
    have h1 := blk_cell hg 1
    simp at h0 h1
    go_enter Try.func40, Try.ntmps40
    go_wp2_with (go_at_call 51; refine (num_GetText.calls k A c l x n e _ ?_ hc h).mono ?_; rotate_left; rintro e w5 ⟨rfl, hd⟩; have hg5 := blk_below hg hd.below; have h05 := blk_cell hg5 0; have h15 := blk_cell hg5 1; have f05 := blk_frozen hg5 0; have f15 := blk_frozen hg5 1; simp at h05 h15)
    · go_ret
      exact rd_end hd.below hF hP (kept_set _ _ _ _) (fun N hN h => h.setCell hN _) hc (by simpa using blk_set hg5 1 (.bool true)) hF
    · exact hr
  · replace hbad := Bool.eq_false_iff.2 hbad
    subst hbad
    rw [Bool.false_or]
    have h0 := blk_cell hg 0
    have h1 := blk_cell hg 1
    simp at h0 h1
    by_cases he : e = 0
    · subst he
      obtain ⟨hn0, hn1⟩ := hn rfl
      rw [if_neg (by simp), show (!((0 : Int) == 0)) = false from rfl]
      have hF2 := Kd.F_cut (m := n.toNat) (c := c) hF (by omega) hc
      have hl2 : (l.drop n.toNat).length = l.length - n.toNat := List.length_drop
      go_enter Try.func40, Try.ntmps40
      go_wp2_with (go_at_call 51; refine (num_GetText.calls k A c l x n 0 _ ?_ hc h).mono ?_; rotate_left; rintro e w5 ⟨rfl, hd⟩; have hg5 := blk_below hg hd.below; have h05 := blk_cell hg5 0; have h15 := blk_cell hg5 1; have f05 := blk_frozen hg5 0; have f15 := blk_frozen hg5 1; simp at h05 h15)
      all_goals first | exact hr | skip
      · go_ret
        refine rd_end (A' := A) (c' := 0) hd.below hF hP (kept_set2 _ _ _ _ _ _) (fun N hN h => (h.setCell hN _).setCell hN _) (by omega) (by rw [hl2]; simpa using blk_set (blk_set hg5 1 (.bool false)) 0 (.slice A (l.length - n.toNat) 0)) (by rw [if_pos (by assumption)] at hF2; exact hF2)
      · go_ret
        refine rd_end (A' := A.map (·.add n.toNat)) (c' := c - n.toNat) hd.below hF hP (kept_set2 _ _ _ _ _ _) (fun N hN h => (h.setCell hN _).setCell hN _) (by omega) (by rw [hl2]; simpa using blk_set (blk_set hg5 1 (.bool false)) 0 (.slice (A.map (·.add n.toNat)) (l.length - n.toNat) (c - n.toNat))) ?_
        rw [if_neg (by assumption)] at hF2
        simpa [Kd.int, Kd.scalar] using hF2
    · have hne : (e == 0) = false := by simpa using he
      have hne2 : (e != 0) = true := by simpa using he
      rw [if_pos (.inr he), hne]
      go_enter Try.func40, Try.ntmps40
      go_wp2_with (go_at_call 51; refine (num_GetText.calls k A c l x n e _ ?_ hc h).mono ?_; rotate_left; rintro e w5 ⟨rfl, hd⟩; have hg5 := blk_below hg hd.below; have h05 := blk_cell hg5 0; have h15 := blk_cell hg5 1; have f05 := blk_frozen hg5 0; have f15 := blk_frozen hg5 1; simp at h05 h15)
      all_goals first | exact hr | skip
      · go_ret
        exact rd_end hd.below hF hP (kept_set _ _ _ _) (fun N hN h => h.setCell hN _) hc (by simpa using blk_set hg5 1 (.bool true)) hF
def rdText (k : Nat) (l : List Int) (bad : Bool) : Option (ByteArray × List Int × Bool) :=
  (num_GetText.f k l).bind fun q => if q.2.2 = 0 then (if 0 ≤ q.2.1 ∧ q.2.1 ≤ l.length then some (q.1, if bad = true then (l, true) else (l.drop q.2.1.toNat, false)) else none) else some (q.1, l, true)
theorem rdText.mono (l : List Int) (bad : Bool) (k : Nat) : LeO (rdText k l bad) (rdText (k + 1) l bad) := by
  unfold rdText
  exact LeO.bind (num_GetText.mono _ _) (fun _ => LeO.refl _)
theorem text_call {P : Nat → Prop} {g : Nat} {l : List Int} {bad : Bool} {w : World} (hs : IsRd 78 P w g l bad) (hP : ¬ P g) {k : Nat} {x : ByteArray} {l' : List Int} {bad' : Bool} (h : rdText k l bad = some (x, l', bad')) :
    Calls Try.prog 40 #[.pointer (some ⟨g, 0, none⟩)] w (RdPost 78 P w g (.string x) l' bad') := by
  unfold rdText at h
  obtain ⟨⟨x0, n, e⟩, h1, h2⟩ := Option.bind_eq_some_iff.1 h
  by_cases he : e = 0
  · subst he
    simp only [if_true] at h2
    by_cases hn : 0 ≤ n ∧ n ≤ l.length
    · rw [if_pos hn] at h2
      have h3 := text_walk hs hP h1 (fun _ => hn)
      cases bad <;> simp at h2 h3 <;> obtain ⟨rfl, rfl, rfl⟩ := h2 <;> exact h3
    · rw [if_neg hn] at h2; cases h2
  · simp only [he, if_false] at h2
    have h3 := text_walk hs hP h1 (fun h0 => absurd h0 he)
    simp [he] at h2 h3
    obtain ⟨rfl, rfl, rfl⟩ := h2
    rw [show (e == 0) = false by simpa using he] at h3
    simpa using h3


/-! ### wal_reader_done: function 41, by hand -/
theorem done_walk {P : Nat → Prop} {g : Nat} {l : List Int} {bad : Bool} {w : World} (hs : IsRd 78 P w g l bad) :
    Calls Try.prog 41 #[.pointer (some ⟨g, 0, none⟩)] w (fun e w' => e = .returned (.bool (!bad && l.isEmpty)) ∧ w' = w) := by
  obtain ⟨A, c, hg, hc, hF⟩ := hs
  have h0 := blk_cell hg 0
  have h1 := blk_cell hg 1
  simp at h0 h1
  cases bad with
  | true =>
    go_enter Try.func41, Try.ntmps41
    go_wp2_with fail
    go_ret
    exact ⟨rfl, rfl⟩
  | false =>
    cases l with
    | nil =>
      go_enter Try.func41, Try.ntmps41
      go_wp2_with fail
      go_ret
      exact ⟨rfl, rfl⟩
    | cons a l =>
      go_enter Try.func41, Try.ntmps41
      go_wp2_with fail
      go_ret
      exact ⟨rfl, rfl⟩


/-! ### wal_Decode: function 16, by hand -/
theorem dec_err (k : Nat) (A0 : Option Addr) (c0 : Nat) (l0 : List Int) (kind n err : Int) (body : List Int) (w : World) (hr0 : Kd.C (Kd.int .u8) w A0 l0.length l0) (hc0 : l0.length ≤ c0) (h : frame_Open.f k l0 = some (kind, body, n, err)) (he : err ≠ 0) :
    Calls Try.prog 16 #[.slice A0 l0.length c0] w fun e w' => e = .returned (.tuple #[.agg #[.bool false, .int .i64 0, .int .i64 0, .int .i64 0, .int .i64 0, .int .i64 0, .string ⟨#[]⟩], .int .i64 0, .int .i64 err]) ∧ Below w.heap.size w w' := by
  have hne : (err == 0) = false := by simpa using he
  have hne2 : (err != 0) = true := by simpa using he
  go_enter Try.func16, Try.ntmps16
  go_wp2_with (go_at_call 38; refine (frame_Open.calls k A0 c0 l0 kind body n err _ ?_ hc0 h).mono ?_; rotate_left; rintro e w5 ⟨v1, rfl, ho, hb⟩; have hg2 := blk_below (blk_new w _) hb; have hc2 := blk_cell hg2; have hf2 := blk_frozen hg2)
  · refine bodyPost_ret (v := .tuple #[.agg #[.bool false, .int .i64 0, .int .i64 0, .int .i64 0, .int .i64 0, .int .i64 0, .string ⟨#[]⟩], .int .i64 0, .int .i64 err]) (by simp [results, Try.results16, go_sem, hc2, hf2]) rfl ⟨rfl, ?_⟩
    have hB := below_step (below_alloc (Below.refl w.heap.size w) _) hb
    with_reducible exact below_setb (below_setb (below_setb (below_setb (below_setb (below_setb (below_setb hB (Nat.le_refl _)) (Nat.le_refl _)) (Nat.le_refl _)) (Nat.le_refl _)) (Nat.le_refl _)) (Nat.le_refl _)) (Nat.le_refl _)
  · exact Kd.C_below hr0 (below_alloc (Below.refl _ _) _)
/-- What Decode hands back behind a whole frame: the record if all went and it may be. -/
def decR (ok : Bool) (hard : Bool) (t v i u q : Int) (d : ByteArray) (n : Int) : Value :=
  if ok then .tuple #[.agg #[.bool hard, .int .i64 t, .int .i64 v, .int .i64 i, .int .i64 u, .int .i64 q, .string d], .int .i64 n, .int .i64 0]
  else .tuple #[.agg #[.bool false, .int .i64 0, .int .i64 0, .int .i64 0, .int .i64 0, .int .i64 0, .string ⟨#[]⟩], .int .i64 0, .int .i64 3]
theorem dec_hard (k : Nat) (A0 : Option Addr) (c0 : Nat) (l0 : List Int) (n : Int) (body : List Int) (w : World) (hr0 : Kd.C (Kd.int .u8) w A0 l0.length l0) (hc0 : l0.length ≤ c0) (h : frame_Open.f k l0 = some (1, body, n, 0))
   {x1 x2 : Int} {l1 l2 : List Int} {b1 b2 : Bool} (h1 : rdNum k body false = some (x1, l1, b1)) (h2 : rdNum k l1 b1 = some (x2, l2, b2)) {m : Bool} (hm : (!b2 && l2.isEmpty) = true → wal_May.f k true x1 x2 0 0 0 ⟨#[]⟩ = some m) :
    Calls Try.prog 16 #[.slice A0 l0.length c0] w (DecPost w (decR ((!b2 && l2.isEmpty) && m) true x1 x2 0 0 0 ⟨#[]⟩ n)) := by
  have HM := Aside0.mk hm
  clear hm
  go_enter Try.func16, Try.ntmps16
  go_wp2_with (go_at_call 38; refine (frame_Open.calls k A0 c0 l0 1 body n 0 _ (Kd.C_below hr0 (below_alloc (Below.refl _ _) _)) hc0 h).mono ?_; rintro e w5 ⟨v1, rfl, ho, hb⟩; obtain ⟨A1, c1, rfl, hcc, hrr⟩ := Kd.R_reads ho; have hg2 := blk_below (blk_new w _) hb)
  have hlt := blk_lt hg2
  have hs : IsRd 78 (fun k => k < w5.heap.size) ((w5.alloc (.cells #[.slice A1 body.length c1, .bool false] 78)).alloc (.cells #[.bool true, .int .i64 0, .int .i64 0, .int .i64 0, .int .i64 0, .int .i64 0, .string ⟨#[]⟩] 32)) w5.heap.size body false :=
    ⟨A1, c1, blk_below (blk_new w5 _) (below_alloc (Below.refl _ _) _), hcc, Kd.F_alloc (Kd.F_alloc (Kd.C_F (Kd.heap_int .u8) hrr) _) _⟩
  have hg10 := blk_new (w5.alloc (.cells #[.slice A1 body.length c1, .bool false] 78)) (.cells #[.bool true, .int .i64 0, .int .i64 0, .int .i64 0, .int .i64 0, .int .i64 0, .string ⟨#[]⟩] 32)
  rw [show (w5.alloc (.cells #[.slice A1 body.length c1, .bool false] 78)).heap.size = w5.heap.size + 1 by simp] at hg10
  have hg27 := blk_below hg2 (below_alloc (below_alloc (Below.refl w5.heap.size w5) (.cells #[.slice A1 body.length c1, .bool false] 78)) (.cells #[.bool true, .int .i64 0, .int .i64 0, .int .i64 0, .int .i64 0, .int .i64 0, .string ⟨#[]⟩] 32))
  refine (num_call hs (Nat.lt_irrefl _) h1).mono ?_
  rintro e w8 ⟨rfl, hs8, hk8, hB8⟩
  replace hg10 := kept_blk hk8 hg10 (by omega)
  have hg28 := kept_blk hk8 hg27 (by omega)
  have hc10 := blk_cell hg10
  have hf10 := blk_frozen hg10
  go_wp2_with fail
  clear hc10 hf10
  have hg11 := blk_set hg10 1 (.int .i64 x1)
  have hg29 := blk_far hg28 (p := ⟨w5.heap.size + 1, 1, none⟩) (by show w.heap.size ≠ w5.heap.size + 1; omega) (.int .i64 x1)
  have hs9 := hs8.far (i := 1) (u := .int .i64 x1) (show w5.heap.size ≠ w5.heap.size + 1 by omega) (by omega)
  refine (num_call hs9 (Nat.lt_irrefl _) h2).mono ?_
  rintro e w9 ⟨rfl, hs10, hk9, hB9⟩
  replace hg11 := kept_blk hk9 hg11 (by omega)
  replace hg29 := kept_blk hk9 hg29 (by omega)
  simp only [List.setIfInBounds_toArray, List.set_cons_zero, List.set_cons_succ] at hg11
  have hc11 := blk_cell hg11
  have hf11 := blk_frozen hg11
  go_wp2_with fail
  clear hc11 hf11
  have hg12 := blk_set hg11 2 (.int .i64 x2)
  have hg210 := blk_far hg29 (p := ⟨w5.heap.size + 1, 2, none⟩) (by show w.heap.size ≠ w5.heap.size + 1; omega) (.int .i64 x2)
  have hs11 := hs10.far (i := 2) (u := .int .i64 x2) (show w5.heap.size ≠ w5.heap.size + 1 by omega) (by omega)
  simp only [List.setIfInBounds_toArray, List.set_cons_zero, List.set_cons_succ] at hg12
  have hB : Below w.heap.size w (w9.setCell ⟨w5.heap.size + 1, 2, none⟩ (.int .i64 x2)) := by
    have h5 := below_step (below_alloc (Below.refl w.heap.size w) _) hb
    have h7 := below_alloc (below_alloc h5 (.cells #[.slice A1 body.length c1, .bool false] 78)) (.cells #[.bool true, .int .i64 0, .int .i64 0, .int .i64 0, .int .i64 0, .int .i64 0, .string ⟨#[]⟩] 32)
    have h8 := h7.trans (hB8 w.heap.size (by omega) h7.size)
    have h8' := below_setb (i := 1) (v := .int .i64 x1) h8 (show w.heap.size ≤ w5.heap.size + 1 by omega)
    have h9 := h8'.trans (hB9 w.heap.size (by omega) h8'.size)
    exact below_setb h9 (by omega)
  generalize w9.setCell ⟨w5.heap.size + 1, 2, none⟩ (.int .i64 x2) = w10 at hg12 hg210 hs11 hB ⊢
  clear hB8 hB9 hk8 hk9 hs8 hs9 hs10 hg10 hg11 hg27 hg28 hg29 hs
  refine (done_walk hs11).mono ?_
  rintro e w' ⟨rfl, rfl⟩
  have hc12 := blk_cell hg12
  have hc210 := blk_cell hg210
  have hf210 := blk_frozen hg210
  cases hd : (!b2 && l2.isEmpty)
  · skip
    go_wp2_with fail
    refine bodyPost_ret (v := .tuple #[.agg #[.bool false, .int .i64 0, .int .i64 0, .int .i64 0, .int .i64 0, .int .i64 0, .string ⟨#[]⟩], .int .i64 0, .int .i64 3]) (by simp [results, Try.results16, go_sem, hc210]) rfl ⟨by rw [hd]; rfl, ?_⟩
    with_reducible exact below_setb (below_setb (below_setb (below_setb (below_setb (below_setb (below_setb hB (Nat.le_refl _)) (Nat.le_refl _)) (Nat.le_refl _)) (Nat.le_refl _)) (Nat.le_refl _)) (Nat.le_refl _)) (Nat.le_refl _)
  · skip
    have hm := HM.out hd
    go_wp2_with fail
    clear hc12 hc210 hf210
    refine (wal_May.calls k true x1 x2 0 0 0 ⟨#[]⟩ m _ hm).mono ?_
    rintro e w11 ⟨rfl, hb11⟩
    have hg13 := blk_below hg12 hb11
    have hg211 := blk_below hg210 hb11
    have hB11 := below_step hB hb11
    have hc12 := blk_cell hg13
    have hc210 := blk_cell hg211
    have hf210 := blk_frozen hg211
    cases m with
    | false =>
      go_wp2_with fail
      refine bodyPost_ret (v := .tuple #[.agg #[.bool false, .int .i64 0, .int .i64 0, .int .i64 0, .int .i64 0, .int .i64 0, .string ⟨#[]⟩], .int .i64 0, .int .i64 3]) (by simp [results, Try.results16, go_sem, hc210]) rfl ⟨by rw [hd]; rfl, ?_⟩
      with_reducible exact below_setb (below_setb (below_setb (below_setb (below_setb (below_setb (below_setb hB11 (Nat.le_refl _)) (Nat.le_refl _)) (Nat.le_refl _)) (Nat.le_refl _)) (Nat.le_refl _)) (Nat.le_refl _)) (Nat.le_refl _)
    | true =>
      go_wp2_with fail
      refine bodyPost_ret (v := .tuple #[.agg #[.bool true, .int .i64 x1, .int .i64 x2, .int .i64 0, .int .i64 0, .int .i64 0, .string ⟨#[]⟩], .int .i64 n, .int .i64 0]) (by simp [results, Try.results16, go_sem, hc210]) rfl ⟨by rw [hd]; rfl, ?_⟩
      with_reducible exact below_setb (below_setb (below_setb (below_setb (below_setb (below_setb (below_setb hB11 (Nat.le_refl _)) (Nat.le_refl _)) (Nat.le_refl _)) (Nat.le_refl _)) (Nat.le_refl _)) (Nat.le_refl _)) (Nat.le_refl _)
theorem dec_entry (k : Nat) (A0 : Option Addr) (c0 : Nat) (l0 : List Int) (n : Int) (body : List Int) (w : World) (hr0 : Kd.C (Kd.int .u8) w A0 l0.length l0) (hc0 : l0.length ≤ c0) (h : frame_Open.f k l0 = some (2, body, n, 0))
   {x1 x2 x3 : Int} {x4 : ByteArray} {l1 l2 l3 l4 : List Int} {b1 b2 b3 b4 : Bool} (h1 : rdNum k body false = some (x1, l1, b1)) (h2 : rdNum k l1 b1 = some (x2, l2, b2)) (h3 : rdNum k l2 b2 = some (x3, l3, b3)) (h4 : rdText k l3 b3 = some (x4, l4, b4))
   {m : Bool} (hm : (!b4 && l4.isEmpty) = true → wal_May.f k false 0 0 x1 x2 x3 x4 = some m) :
    Calls Try.prog 16 #[.slice A0 l0.length c0] w (DecPost w (decR ((!b4 && l4.isEmpty) && m) false 0 0 x1 x2 x3 x4 n)) := by
  have HM := Aside0.mk hm
  clear hm
  go_enter Try.func16, Try.ntmps16
  go_wp2_with (go_at_call 38; refine (frame_Open.calls k A0 c0 l0 2 body n 0 _ (Kd.C_below hr0 (below_alloc (Below.refl _ _) _)) hc0 h).mono ?_; rintro e w5 ⟨v1, rfl, ho, hb⟩; obtain ⟨A1, c1, rfl, hcc, hrr⟩ := Kd.R_reads ho; have hg2 := blk_below (blk_new w _) hb)
  have hlt := blk_lt hg2
  have hs0 : IsRd 78 (fun k => k < w5.heap.size) ((w5.alloc (.cells #[.slice A1 body.length c1, .bool false] 78)).alloc (.cells #[.bool false, .int .i64 0, .int .i64 0, .int .i64 0, .int .i64 0, .int .i64 0, .string ⟨#[]⟩] 32)) w5.heap.size body false :=
    ⟨A1, c1, blk_below (blk_new w5 _) (below_alloc (Below.refl _ _) _), hcc, Kd.F_alloc (Kd.F_alloc (Kd.C_F (Kd.heap_int .u8) hrr) _) _⟩
  have hg10 := blk_new (w5.alloc (.cells #[.slice A1 body.length c1, .bool false] 78)) (.cells #[.bool false, .int .i64 0, .int .i64 0, .int .i64 0, .int .i64 0, .int .i64 0, .string ⟨#[]⟩] 32)
  rw [show (w5.alloc (.cells #[.slice A1 body.length c1, .bool false] 78)).heap.size = w5.heap.size + 1 by simp] at hg10
  have hg27 := blk_below hg2 (below_alloc (below_alloc (Below.refl w5.heap.size w5) (.cells #[.slice A1 body.length c1, .bool false] 78)) (.cells #[.bool false, .int .i64 0, .int .i64 0, .int .i64 0, .int .i64 0, .int .i64 0, .string ⟨#[]⟩] 32))
  have hB : Below w.heap.size w ((w5.alloc (.cells #[.slice A1 body.length c1, .bool false] 78)).alloc (.cells #[.bool false, .int .i64 0, .int .i64 0, .int .i64 0, .int .i64 0, .int .i64 0, .string ⟨#[]⟩] 32)) := by
    have h5 := below_step (below_alloc (Below.refl w.heap.size w) _) hb
    exact below_alloc (below_alloc h5 (.cells #[.slice A1 body.length c1, .bool false] 78)) (.cells #[.bool false, .int .i64 0, .int .i64 0, .int .i64 0, .int .i64 0, .int .i64 0, .string ⟨#[]⟩] 32)
  refine (num_call hs0 (Nat.lt_irrefl _) h1).mono ?_
  clear hs0
  rintro e wa1 ⟨rfl, hs1, hk1, hB1⟩
  replace hg10 := kept_blk hk1 hg10 (by omega)
  replace hg27 := kept_blk hk1 hg27 (by omega)
  replace hB := hB.trans (hB1 w.heap.size (by omega) hB.size)
  clear hk1 hB1
  have hc10 := blk_cell hg10
  have hf10 := blk_frozen hg10
  go_wp2_with fail
  clear hc10 hf10
  replace hg10 := blk_set hg10 3 (.int .i64 x1)
  simp only [List.setIfInBounds_toArray, List.set_cons_zero, List.set_cons_succ] at hg10
  replace hg27 := blk_far hg27 (p := ⟨w5.heap.size + 1, 3, none⟩) (by show w.heap.size ≠ w5.heap.size + 1; omega) (.int .i64 x1)
  have hs0 := hs1.far (i := 3) (u := .int .i64 x1) (show w5.heap.size ≠ w5.heap.size + 1 by omega) (by omega)
  clear hs1
  replace hB := below_setb (i := 3) (v := .int .i64 x1) hB (show w.heap.size ≤ w5.heap.size + 1 by omega)
  generalize wa1.setCell ⟨w5.heap.size + 1, 3, none⟩ (.int .i64 x1) = wb1 at hg10 hg27 hs0 hB ⊢
  clear wa1
  refine (num_call hs0 (Nat.lt_irrefl _) h2).mono ?_
  clear hs0
  rintro e wa2 ⟨rfl, hs1, hk1, hB1⟩
  replace hg10 := kept_blk hk1 hg10 (by omega)
  replace hg27 := kept_blk hk1 hg27 (by omega)
  replace hB := hB.trans (hB1 w.heap.size (by omega) hB.size)
  clear hk1 hB1
  have hc10 := blk_cell hg10
  have hf10 := blk_frozen hg10
  go_wp2_with fail
  clear hc10 hf10
  replace hg10 := blk_set hg10 4 (.int .i64 x2)
  simp only [List.setIfInBounds_toArray, List.set_cons_zero, List.set_cons_succ] at hg10
  replace hg27 := blk_far hg27 (p := ⟨w5.heap.size + 1, 4, none⟩) (by show w.heap.size ≠ w5.heap.size + 1; omega) (.int .i64 x2)
  have hs0 := hs1.far (i := 4) (u := .int .i64 x2) (show w5.heap.size ≠ w5.heap.size + 1 by omega) (by omega)
  clear hs1
  replace hB := below_setb (i := 4) (v := .int .i64 x2) hB (show w.heap.size ≤ w5.heap.size + 1 by omega)
  generalize wa2.setCell ⟨w5.heap.size + 1, 4, none⟩ (.int .i64 x2) = wb2 at hg10 hg27 hs0 hB ⊢
  clear wa2
  refine (num_call hs0 (Nat.lt_irrefl _) h3).mono ?_
  clear hs0
  rintro e wa3 ⟨rfl, hs1, hk1, hB1⟩
  replace hg10 := kept_blk hk1 hg10 (by omega)
  replace hg27 := kept_blk hk1 hg27 (by omega)
  replace hB := hB.trans (hB1 w.heap.size (by omega) hB.size)
  clear hk1 hB1
  have hc10 := blk_cell hg10
  have hf10 := blk_frozen hg10
  go_wp2_with fail
  clear hc10 hf10
  replace hg10 := blk_set hg10 5 (.int .i64 x3)
  simp only [List.setIfInBounds_toArray, List.set_cons_zero, List.set_cons_succ] at hg10
  replace hg27 := blk_far hg27 (p := ⟨w5.heap.size + 1, 5, none⟩) (by show w.heap.size ≠ w5.heap.size + 1; omega) (.int .i64 x3)
  have hs0 := hs1.far (i := 5) (u := .int .i64 x3) (show w5.heap.size ≠ w5.heap.size + 1 by omega) (by omega)
  clear hs1
  replace hB := below_setb (i := 5) (v := .int .i64 x3) hB (show w.heap.size ≤ w5.heap.size + 1 by omega)
  generalize wa3.setCell ⟨w5.heap.size + 1, 5, none⟩ (.int .i64 x3) = wb3 at hg10 hg27 hs0 hB ⊢
  clear wa3
  refine (text_call hs0 (Nat.lt_irrefl _) h4).mono ?_
  clear hs0
  rintro e wa4 ⟨rfl, hs1, hk1, hB1⟩
  replace hg10 := kept_blk hk1 hg10 (by omega)
  replace hg27 := kept_blk hk1 hg27 (by omega)
  replace hB := hB.trans (hB1 w.heap.size (by omega) hB.size)
  clear hk1 hB1
  have hc10 := blk_cell hg10
  have hf10 := blk_frozen hg10
  go_wp2_with fail
  clear hc10 hf10
  replace hg10 := blk_set hg10 6 (.string x4)
  simp only [List.setIfInBounds_toArray, List.set_cons_zero, List.set_cons_succ] at hg10
  replace hg27 := blk_far hg27 (p := ⟨w5.heap.size + 1, 6, none⟩) (by show w.heap.size ≠ w5.heap.size + 1; omega) (.string x4)
  have hs0 := hs1.far (i := 6) (u := .string x4) (show w5.heap.size ≠ w5.heap.size + 1 by omega) (by omega)
  clear hs1
  replace hB := below_setb (i := 6) (v := .string x4) hB (show w.heap.size ≤ w5.heap.size + 1 by omega)
  generalize wa4.setCell ⟨w5.heap.size + 1, 6, none⟩ (.string x4) = wb4 at hg10 hg27 hs0 hB ⊢
  clear wa4
  refine (done_walk hs0).mono ?_
  rintro e w' ⟨rfl, rfl⟩
  have hc12 := blk_cell hg10
  have hc210 := blk_cell hg27
  have hf210 := blk_frozen hg27
  cases hd : (!b4 && l4.isEmpty)
  · skip
    go_wp2_with fail
    refine bodyPost_ret (v := .tuple #[.agg #[.bool false, .int .i64 0, .int .i64 0, .int .i64 0, .int .i64 0, .int .i64 0, .string ⟨#[]⟩], .int .i64 0, .int .i64 3]) (by simp [results, Try.results16, go_sem, hc210]) rfl ⟨by rw [hd]; rfl, ?_⟩
    with_reducible exact below_setb (below_setb (below_setb (below_setb (below_setb (below_setb (below_setb hB (Nat.le_refl _)) (Nat.le_refl _)) (Nat.le_refl _)) (Nat.le_refl _)) (Nat.le_refl _)) (Nat.le_refl _)) (Nat.le_refl _)
  · skip
    have hm := HM.out hd
    go_wp2_with fail
    clear hc12 hc210 hf210
    refine (wal_May.calls k false 0 0 x1 x2 x3 x4 m _ hm).mono ?_
    rintro e w11 ⟨rfl, hb11⟩
    have hg13 := blk_below hg10 hb11
    have hg211 := blk_below hg27 hb11
    have hB11 := below_step hB hb11
    have hc12 := blk_cell hg13
    have hc210 := blk_cell hg211
    have hf210 := blk_frozen hg211
    cases m with
    | false =>
      go_wp2_with fail
      refine bodyPost_ret (v := .tuple #[.agg #[.bool false, .int .i64 0, .int .i64 0, .int .i64 0, .int .i64 0, .int .i64 0, .string ⟨#[]⟩], .int .i64 0, .int .i64 3]) (by simp [results, Try.results16, go_sem, hc210]) rfl ⟨by rw [hd]; rfl, ?_⟩
      with_reducible exact below_setb (below_setb (below_setb (below_setb (below_setb (below_setb (below_setb hB11 (Nat.le_refl _)) (Nat.le_refl _)) (Nat.le_refl _)) (Nat.le_refl _)) (Nat.le_refl _)) (Nat.le_refl _)) (Nat.le_refl _)
    | true =>
      go_wp2_with fail
      refine bodyPost_ret (v := .tuple #[.agg #[.bool false, .int .i64 0, .int .i64 0, .int .i64 x1, .int .i64 x2, .int .i64 x3, .string x4], .int .i64 n, .int .i64 0]) (by simp [results, Try.results16, go_sem, hc210]) rfl ⟨by rw [hd]; rfl, ?_⟩
      with_reducible exact below_setb (below_setb (below_setb (below_setb (below_setb (below_setb (below_setb hB11 (Nat.le_refl _)) (Nat.le_refl _)) (Nat.le_refl _)) (Nat.le_refl _)) (Nat.le_refl _)) (Nat.le_refl _)) (Nat.le_refl _)
theorem dec_other (k : Nat) (A0 : Option Addr) (c0 : Nat) (l0 : List Int) (kind n : Int) (body : List Int) (w : World) (hr0 : Kd.C (Kd.int .u8) w A0 l0.length l0) (hc0 : l0.length ≤ c0) (h : frame_Open.f k l0 = some (kind, body, n, 0)) (hk1 : kind ≠ 1) (hk2 : kind ≠ 2) :
    Calls Try.prog 16 #[.slice A0 l0.length c0] w (DecPost w (decR false false 0 0 0 0 0 ⟨#[]⟩ n)) := by
  have e1 : (kind == 1) = false := by simpa using hk1
  have e2 : (kind == 2) = false := by simpa using hk2
  have e3 : (kind != 1) = true := by simpa using hk1
  have e4 : (kind != 2) = true := by simpa using hk2
  clear hk1 hk2
  go_enter Try.func16, Try.ntmps16
  go_wp2_with (go_at_call 38; refine (frame_Open.calls k A0 c0 l0 kind body n 0 _ (Kd.C_below hr0 (below_alloc (Below.refl _ _) _)) hc0 h).mono ?_; rintro e w5 ⟨v1, rfl, ho, hb⟩; obtain ⟨A1, c1, rfl, hcc, hrr⟩ := Kd.R_reads ho; have hg2 := blk_below (blk_new w _) hb; have hlt := blk_lt hg2; have hcX := blk_cell hg2; have hfX := blk_frozen hg2)
  have h5 := below_step (below_alloc (Below.refl w.heap.size w) _) hb
  have h6 := below_setb (i := 6) (v := .string ⟨#[]⟩) (below_setb (i := 5) (v := .int .i64 0) (below_setb (i := 4) (v := .int .i64 0) (below_setb (i := 3) (v := .int .i64 0) (below_setb (i := 2) (v := .int .i64 0) (below_setb (i := 1) (v := .int .i64 0) (below_setb (i := 0) (v := .bool false) h5 (Nat.le_refl _)) (Nat.le_refl _)) (Nat.le_refl _)) (Nat.le_refl _)) (Nat.le_refl _)) (Nat.le_refl _)) (Nat.le_refl _)
  refine bodyPost_ret (v := .tuple #[.agg #[.bool false, .int .i64 0, .int .i64 0, .int .i64 0, .int .i64 0, .int .i64 0, .string ⟨#[]⟩], .int .i64 0, .int .i64 3]) (by simp [results, Try.results16, go_sem, hcX, hlt, Nat.lt_succ_of_lt hlt, Nat.ne_of_lt hlt, Nat.ne_of_lt (Nat.lt_succ_of_lt hlt)]) rfl ⟨rfl, ?_⟩
  exact below_alloc (below_alloc h6 _) _
/-- What it computes. -/
def wal_Decode.f (k : Nat) (l0 : List Int) : Option (Bool × Int × Int × Int × Int × Int × ByteArray × Int × Int) :=
  (frame_Open.f k l0).bind fun o =>
  if o.2.2.2 = 0 then
    if o.1 = 1 then
      (rdNum k o.2.1 false).bind fun s1 => (rdNum k s1.2.1 s1.2.2).bind fun s2 =>
        if (!s2.2.2 && s2.2.1.isEmpty) = true then
          (wal_May.f k true s1.1 s2.1 0 0 0 ⟨#[]⟩).bind fun m => if m = true then some (true, s1.1, s2.1, 0, 0, 0, ⟨#[]⟩, o.2.2.1, 0) else some (false, 0, 0, 0, 0, 0, ⟨#[]⟩, 0, 3)
        else some (false, 0, 0, 0, 0, 0, ⟨#[]⟩, 0, 3)
    else if o.1 = 2 then
      (rdNum k o.2.1 false).bind fun s1 => (rdNum k s1.2.1 s1.2.2).bind fun s2 => (rdNum k s2.2.1 s2.2.2).bind fun s3 => (rdText k s3.2.1 s3.2.2).bind fun s4 =>
        if (!s4.2.2 && s4.2.1.isEmpty) = true then
          (wal_May.f k false 0 0 s1.1 s2.1 s3.1 s4.1).bind fun m => if m = true then some (false, 0, 0, s1.1, s2.1, s3.1, s4.1, o.2.2.1, 0) else some (false, 0, 0, 0, 0, 0, ⟨#[]⟩, 0, 3)
        else some (false, 0, 0, 0, 0, 0, ⟨#[]⟩, 0, 3)
    else some (false, 0, 0, 0, 0, 0, ⟨#[]⟩, 0, 3)
  else some (false, 0, 0, 0, 0, 0, ⟨#[]⟩, 0, o.2.2.2)
theorem wal_Decode.mono : ∀ a0 k, LeO (wal_Decode.f k a0) (wal_Decode.f (k + 1) a0) := by
  intro a0 k
  unfold wal_Decode.f
  refine LeO.bind (frame_Open.mono _ _) (fun o => LeO.ite (LeO.ite ?_ (LeO.ite ?_ (LeO.refl _))) (LeO.refl _))
  · exact LeO.bind (rdNum.mono _ _ _) (fun s1 => LeO.bind (rdNum.mono _ _ _) (fun s2 => LeO.ite (LeO.bind (wal_May.mono _ _ _ _ _ _ _ _) (fun _ => LeO.refl _)) (LeO.refl _)))
  · exact LeO.bind (rdNum.mono _ _ _) (fun s1 => LeO.bind (rdNum.mono _ _ _) (fun s2 => LeO.bind (rdNum.mono _ _ _) (fun s3 => LeO.bind (rdText.mono _ _ _) (fun s4 => LeO.ite (LeO.bind (wal_May.mono _ _ _ _ _ _ _ _) (fun _ => LeO.refl _)) (LeO.refl _)))))
theorem wal_Decode.calls (k : Nat) (A0 : Option Addr) (c0 : Nat) (l0 : List Int) (r1 : Bool) (r2 : Int) (r3 : Int) (r4 : Int) (r5 : Int) (r6 : Int) (r7 : ByteArray) (r8 : Int) (r9 : Int) (w : World) (hr0 : Kd.C (Kd.int .u8) w A0 l0.length l0) (hc0 : l0.length ≤ c0) (h : wal_Decode.f k l0 = some (r1, r2, r3, r4, r5, r6, r7, r8, r9)) :
    Calls Try.prog 16 #[.slice A0 l0.length c0] w fun e w' => e = .returned (.tuple #[.agg #[.bool r1, .int .i64 r2, .int .i64 r3, .int .i64 r4, .int .i64 r5, .int .i64 r6, .string r7], .int .i64 r8, .int .i64 r9]) ∧ Below w.heap.size w w' := by
  unfold wal_Decode.f at h
  obtain ⟨⟨kind, body, n, err⟩, ho, h⟩ := Option.bind_eq_some_iff.1 h
  simp only at h
  by_cases he : err = 0
  · subst he
    rw [if_pos rfl] at h
    by_cases hk : kind = 1
    · subst hk
      rw [if_pos rfl] at h
      obtain ⟨⟨x1, l1, b1⟩, h1, h⟩ := Option.bind_eq_some_iff.1 h
      obtain ⟨⟨x2, l2, b2⟩, h2, h⟩ := Option.bind_eq_some_iff.1 h
      simp only at h2 h
      by_cases hd : (!b2 && l2.isEmpty) = true
      · rw [if_pos hd] at h
        obtain ⟨m, hm, h⟩ := Option.bind_eq_some_iff.1 h
        refine (dec_hard k A0 c0 l0 n body w hr0 hc0 ho h1 h2 (m := m) (fun _ => hm)).mono fun e w' ⟨he, hb⟩ => ⟨?_, hb⟩
        rw [he, hd, Bool.true_and]
        cases m <;> simp at h <;> obtain ⟨rfl, rfl, rfl, rfl, rfl, rfl, rfl, rfl, rfl⟩ := h <;> rfl
      · rw [if_neg hd] at h
        refine (dec_hard k A0 c0 l0 n body w hr0 hc0 ho h1 h2 (m := false) (fun h => absurd h hd)).mono fun e w' ⟨he, hb⟩ => ⟨?_, hb⟩
        rw [he, Bool.and_false]
        simp at h
        obtain ⟨rfl, rfl, rfl, rfl, rfl, rfl, rfl, rfl, rfl⟩ := h
        rfl
    · rw [if_neg hk] at h
      by_cases hk2 : kind = 2
      · subst hk2
        rw [if_pos rfl] at h
        obtain ⟨⟨x1, l1, b1⟩, h1, h⟩ := Option.bind_eq_some_iff.1 h
        obtain ⟨⟨x2, l2, b2⟩, h2, h⟩ := Option.bind_eq_some_iff.1 h
        obtain ⟨⟨x3, l3, b3⟩, h3, h⟩ := Option.bind_eq_some_iff.1 h
        obtain ⟨⟨x4, l4, b4⟩, h4, h⟩ := Option.bind_eq_some_iff.1 h
        simp only at h2 h3 h4 h
        by_cases hd : (!b4 && l4.isEmpty) = true
        · rw [if_pos hd] at h
          obtain ⟨m, hm, h⟩ := Option.bind_eq_some_iff.1 h
          refine (dec_entry k A0 c0 l0 n body w hr0 hc0 ho h1 h2 h3 h4 (m := m) (fun _ => hm)).mono fun e w' ⟨he, hb⟩ => ⟨?_, hb⟩
          rw [he, hd, Bool.true_and]
          cases m <;> simp at h <;> obtain ⟨rfl, rfl, rfl, rfl, rfl, rfl, rfl, rfl, rfl⟩ := h <;> rfl
        · rw [if_neg hd] at h
          refine (dec_entry k A0 c0 l0 n body w hr0 hc0 ho h1 h2 h3 h4 (m := false) (fun h => absurd h hd)).mono fun e w' ⟨he, hb⟩ => ⟨?_, hb⟩
          rw [he, Bool.and_false]
          simp at h
          obtain ⟨rfl, rfl, rfl, rfl, rfl, rfl, rfl, rfl, rfl⟩ := h
          rfl
      · rw [if_neg hk2] at h
        refine (dec_other k A0 c0 l0 kind n body w hr0 hc0 ho hk hk2).mono fun e w' ⟨he, hb⟩ => ⟨?_, hb⟩
        rw [he]
        simp at h
        obtain ⟨rfl, rfl, rfl, rfl, rfl, rfl, rfl, rfl, rfl⟩ := h
        rfl
  · rw [if_neg he] at h
    refine (dec_err k A0 c0 l0 kind n err body w hr0 hc0 ho he).mono fun e w' ⟨he, hb⟩ => ⟨?_, hb⟩
    rw [he]
    simp at h
    obtain ⟨rfl, rfl, rfl, rfl, rfl, rfl, rfl, rfl, rfl⟩ := h
    rfl


/-! ### wal_Scan: function 20 -/
def wal_Scan.l0 : Nat → List Int → List (S32) → Int → Option ((List (S32)) × Int × Bool)
  | 0, _, _, _ => none
  | k + 1, x0, x5, x6 => if x6 < (x0.length : Int) then (if 0 ≤ x6 then (if x6 ≤ (x0.length : Int) then ((wal_Decode.f k (x0.drop (x6 : Int).toNat)).bind fun bt194 => (if bt194.2.2.2.2.2.2.2.2 = 0 then (if x5.length < 2199023255552 then (wal_Scan.l0 k x0 (x5 ++ [(⟨bt194.1, (⟨bt194.2.1, bt194.2.2.1⟩ : S23), (⟨bt194.2.2.2.1, bt194.2.2.2.2.1, bt194.2.2.2.2.2.1, bt194.2.2.2.2.2.2.1⟩ : S25)⟩ : S32)]) (wrap64 (x6 + bt194.2.2.2.2.2.2.2.1))) else (none)) else (some (x5, x6, (bt194.2.2.2.2.2.2.2.2 == 2))))) else (none)) else (none)) else (some (x5, x6, true))
def wal_Scan.f (k : Nat) (l0 : List Int) : Option ((List (S32)) × Int × Bool) := wal_Scan.l0 k l0 ([] : List (S32)) 0
theorem wal_Scan.mono_l : ∀ k, (∀ y0 y1 y2, LeO (wal_Scan.l0 k y0 y1 y2) (wal_Scan.l0 (k + 1) y0 y1 y2))
  | 0 => fun _ _ _ r h => by simp [wal_Scan.l0] at h
  | k + 1 => by
    have ih0 := wal_Scan.mono_l k
    · intro y0 y1 y2
      unfold wal_Scan.l0
      repeat' first
      | (with_reducible exact ih0 _ _ _)
      | (with_reducible exact wal_Decode.mono _ _)
      | (with_reducible exact LeO.refl _)
      | (with_reducible exact LeO.none _)
      | (with_reducible refine LeO.ite ?_ ?_)
      | (with_reducible refine LeO.bind ?_ (fun _ => ?_))
      | exact ih0 _ _ _
      | exact wal_Decode.mono _ _
      | exact LeO.none _
      | refine LeO.ite ?_ ?_
      | refine LeO.bind ?_ (fun _ => ?_)
theorem wal_Scan.mono : ∀ a0 k, LeO (wal_Scan.f k a0) (wal_Scan.f (k + 1) a0) := by
  intro a0 k
  have ih0 := wal_Scan.mono_l k
  unfold wal_Scan.f
  repeat' first
      | (with_reducible exact ih0 _ _ _)
      | (with_reducible exact wal_Decode.mono _ _)
      | (with_reducible exact LeO.refl _)
      | (with_reducible exact LeO.none _)
      | (with_reducible refine LeO.ite ?_ ?_)
      | (with_reducible refine LeO.bind ?_ (fun _ => ?_))
      | exact ih0 _ _ _
      | exact wal_Decode.mono _ _
      | exact LeO.none _
      | refine LeO.ite ?_ ?_
      | refine LeO.bind ?_ (fun _ => ?_)
set_option maxHeartbeats 8000000 in
set_option maxRecDepth 100000 in
theorem wal_Scan.calls (k : Nat) (A0 : Option Addr) (c0 : Nat) (l0 : List Int) (r1 : List (S32)) (r2 : Int) (r3 : Bool) (w : World) (hr0 : Kd.C (Kd.int .u8) w A0 l0.length l0) (hc0 : l0.length ≤ c0) (h : wal_Scan.f k l0 = some (r1, r2, r3)) :
    Calls Try.prog 20 #[.slice A0 l0.length c0] w fun e w' => ∃ v0_ : Value, e = .returned (.tuple #[v0_, .int .i64 r2, .bool r3]) ∧ Kd.R k32 32 w' w.heap.size (fun _ => True) v0_ r1 ∧ Below w.heap.size w w' := by
  have hu32 := Try.underlying32
  have HR0 := Aside0.mk hr0
  have HC0 := Aside0.mk hc0
  clear hr0 hc0
  have HB := Aside0.mk (Below.refl w.heap.size w)
  have H : (wal_Scan.l0 k l0 ([] : List (S32)) 0) = some (r1, r2, r3) := h
  clear h
  have H' := Aside0.mk H
  clear H
  go_enter Try.func20, Try.ntmps20
  go_wp2
  go_loopg [5, 6] k (fun kq v5 v6 w' => ∃ (x5_1 : List (S32)) (x6_1 : Int), v6 = .int .i64 x6_1 ∧ Aside0 (wal_Scan.l0 kq l0 x5_1 x6_1 = some (r1, r2, r3)) ∧ Aside0 (kq ≤ k) ∧ Aside0 (Kd.R k32 32 w' w.heap.size (fun _ => True) v5 x5_1) ∧ Aside0 (Below w.heap.size w w'))
  case atStart => exact ⟨(([] : List (S32))), (0), (by first | rfl | (simp; done) | (simp [*]; done)), H', ⟨Nat.le_refl _⟩, ⟨by first | exact Kd.R_nil _ _ _ _ _ | exact Kd.N_nil _ _ _ _ _ | exact Kd.V_nil _ _ _ _ _ | exact Kd.Q_nil _ _ _ _ _ | exact Kd.S_nil _ _ _ _ _⟩, ⟨by repeat (first | (with_reducible first | exact HB.out | apply below_alloc | apply pw_below_drewN | apply below_drew1) | exact HB.out)⟩⟩
  case round =>
    clear H'
    obtain ⟨x5_1, x6_1, rfl, HA, HK1, HO_5, HB⟩ := hrel
    cases gk with
    | zero => exact absurd HA.out (by simp [wal_Scan.l0])
    | succ k1 =>
      have H := HA.out
      clear HA
      simp only [wal_Scan.l0] at H
      by_cases c2 : x6_1 < (l0.length : Int)
      · rw [if_pos c2] at H
        have c2b0 : decide (x6_1 < (l0.length : Int)) = true := decide_eq_true c2
        clear c2
        by_cases c3 : 0 ≤ x6_1
        · rw [if_pos c3] at H
          have c3b0 := eq_true c3
          have c3b1 : decide (0 ≤ x6_1) = true := decide_eq_true c3
          clear c3
          by_cases c4 : x6_1 ≤ (l0.length : Int)
          · rw [if_pos c4] at H
            have c4b0 := eq_true c4
            have c4b1 : decide (x6_1 ≤ (l0.length : Int)) = true := decide_eq_true c4
            clear c4
            replace H := Option.bind_eq_some_iff.mp H
            obtain ⟨⟨t194, t195, t196, t197, t198, t199, t200, t201, t202⟩, A50, H⟩ := H
            replace H : (if t202 = 0 then (if x5_1.length < 2199023255552 then (wal_Scan.l0 k1 l0 (x5_1 ++ [(⟨t194, (⟨t195, t196⟩ : S23), (⟨t197, t198, t199, t200⟩ : S25)⟩ : S32)]) (wrap64 (x6_1 + t201))) else (none)) else (some (x5_1, x6_1, (t202 == 2)))) = some (r1, r2, r3) := H
            have A5 := Aside0.mk A50
            clear A50
            by_cases c6 : t202 = 0
            · rw [if_pos c6] at H
              have c6b0 : (t202 == 0) = true := beq_iff_eq.mpr c6
              have c6b1 : (t202 != 0) = false := bne_eq_false_iff_eq.mpr c6
              clear c6
              by_cases c7 : x5_1.length < 2199023255552
              · rw [if_pos c7] at H
                have LMc7 := Aside0.mk c7
                clear c7
                obtain ⟨y204, hy204⟩ : ∃ y_ : List (S32), y_ = (x5_1 ++ [(⟨t194, (⟨t195, t196⟩ : S23), (⟨t197, t198, t199, t200⟩ : S25)⟩ : S32)]) := ⟨_, rfl⟩
                replace H : (wal_Scan.l0 k1 l0 y204 (wrap64 (x6_1 + t201))) = some (r1, r2, r3) := by first | (rw [hy204]; with_reducible exact H) | (have H2_ := (Option.bind_some _ _).symm.trans H; rw [hy204]; with_reducible exact H2_) | (have H2_ := (Option.bind_some _ _).symm.trans H; with_reducible exact H2_) | with_reducible exact H | (rw [hy204]; exact H) | exact H
                have Ny204 := Aside0.mk hy204
                clear hy204
                have H' := Aside0.mk H
                clear H
                obtain ⟨i08, hi08, _, hsz8, _⟩ := info_parts info5
                obtain ⟨A8, hcut8, hA8, hC8⟩ := print_drop_of (P := Try.prog) (Value.int .u8) 0 30 5 .i64 Try.underlying30 hi08 hsz8 A0 c0 l0 x6_1 (of_decide_eq_true (by first | (with_reducible assumption) | assumption)) (of_decide_eq_true (by first | (with_reducible assumption) | assumption)) HC0.out
                have HR193 := Aside0.mk (Kd.C_of_reads (h1 := fun _ => rfl) (hA8 _ (Kd.reads_of_C HR0.out)))
                have HC193 := Aside0.mk hC8
                clear hA8 hC8 hi08 hsz8
                go_wp2_with (first | ((with_reducible refine gate_callee (f := 16) rfl ?_); refine goesL_ (some 18) rfl rfl Try.func16 (by kernel_rfl) rfl #[.slice A8 (l0.drop (x6_1 : Int).toNat).length (c0 - x6_1.toNat)] rfl (by (try simp only [List.map_toArray, List.map_cons, List.map_nil]); first | done | (rw [show (l0.drop (x6_1 : Int).toNat).length = (l0.length - x6_1.toNat) from List.length_drop] <;> rfl) | rfl | (simp only [List.length_drop, List.length_take]; rfl)) ?_; (with_reducible refine (wal_Decode.calls k1 _ _ (l0.drop (x6_1 : Int).toNat) t194 t195 t196 t197 t198 t199 t200 t201 t202 _ ?side1 ?side2 A5.out).mono ?_); (case side1 => repeat (first | exact (Kd.C_below HR193.out HB.out) | (with_reducible refine Kd.C_alloc ?_ _) | (with_reducible refine Kd.C_drewN ?_ _) | (with_reducible refine Kd.C_drew ?_))); (case side2 => exact HC193.out); rintro e w9 ⟨rfl, hb⟩; refine ⟨_, rfl, ?_⟩; have n0_ := Aside0.mk (Kd.R_below (by (with_reducible repeat (first | apply Kd.R_alloc | apply Kd.R_drewN | apply Kd.R_drew)); first | exact HO_5.out | exact Kd.R_mono HO_5.out (fun _ h_ => by simp only [Kd.own_len] at h_ ⊢; exact h_)) hb); have n1_ := Aside0.mk (below_step (by repeat (first | (with_reducible first | exact HB.out | apply below_alloc | apply pw_below_drewN | apply below_drew1) | exact HB.out)) hb); clear HO_5; clear HB; have HO_5 := n0_; have HB := n1_; clear n0_ n1_; (try clear hb); (try clear hb2); (try clear hk); (try clear hi)) | ((with_reducible refine gate_dst (N := 7) rfl ?_); refine box_event ?hg (N := 7) ?hd (cs := #[.bool false, .int .i64 0, .int .i64 0, .int .i64 0, .int .i64 0, .int .i64 0, .string (⟨#[]⟩ : ByteArray)]) (t := 32) ?hr ?_; (case hd => rfl); (case hg => rfl); (case hr => first | (go_simp; done) | (go_simp; rfl)); intro gb203 hg w10 hbox hb; have n0_ := Aside0.mk (Kd.R_below (Kd.R_elderB (by (with_reducible repeat (first | apply Kd.R_alloc | apply Kd.R_drewN | apply Kd.R_drew)); first | exact HO_5.out | exact Kd.R_mono HO_5.out (fun _ h_ => by simp only [Kd.own_len] at h_ ⊢; exact h_)) gb203 (Nat.le_of_eq hg.symm)) hb); have n1_ := Aside0.mk (below_step (by repeat (first | (with_reducible first | exact HB.out | apply below_alloc | apply pw_below_drewN | apply below_drew1) | exact HB.out)) hb); have n2_ := Aside0.mk (hbox); have n3_ := Aside0.mk ((by rw [hg]; exact (below_size (by repeat (first | (with_reducible first | exact HB.out | apply below_alloc | apply pw_below_drewN | apply below_drew1) | exact HB.out))) : w.heap.size ≤ gb203)); have n4_ := Aside0.mk ((by rw [hg]; exact (below_size (by repeat (first | (with_reducible first | exact HB.out | apply below_alloc | apply pw_below_drewN | apply below_drew1) | exact HB.out))) : w.heap.size ≤ gb203)); clear HO_5; clear HB; have HO_5 := n0_; have HB := n1_; have BK203 := n2_; have GW203 := n3_; have GE203 := n4_; clear n0_ n1_ n2_ n3_ n4_; clear hb hbox hg; have hcz11_0 : w10.cell? ⟨gb203, 0, none⟩ = some (.bool false) := (blk_cell BK203.out 0).trans rfl; have hcz11_1 : w10.cell? ⟨gb203, 1, none⟩ = some (.int .i64 0) := (blk_cell BK203.out 1).trans rfl; have hcz11_2 : w10.cell? ⟨gb203, 2, none⟩ = some (.int .i64 0) := (blk_cell BK203.out 2).trans rfl; have hcz11_3 : w10.cell? ⟨gb203, 3, none⟩ = some (.int .i64 0) := (blk_cell BK203.out 3).trans rfl; have hcz11_4 : w10.cell? ⟨gb203, 4, none⟩ = some (.int .i64 0) := (blk_cell BK203.out 4).trans rfl; have hcz11_5 : w10.cell? ⟨gb203, 5, none⟩ = some (.int .i64 0) := (blk_cell BK203.out 5).trans rfl; have hcz11_6 : w10.cell? ⟨gb203, 6, none⟩ = some (.string (⟨#[]⟩ : ByteArray)) := (blk_cell BK203.out 6).trans rfl; have hfz11_0 := blk_frozen BK203.out 0; have hfz11_1 := blk_frozen BK203.out 1; have hfz11_2 := blk_frozen BK203.out 2; have hfz11_3 := blk_frozen BK203.out 3; have hfz11_4 := blk_frozen BK203.out 4; have hfz11_5 := blk_frozen BK203.out 5; have hfz11_6 := blk_frozen BK203.out 6) | ((with_reducible refine gate_builtin (b := .append) (xs := #[.tmp 28, .tmp 30]) rfl ?_); at_builtin; refine Kd.R_append k32 (w0 := w) w.heap.size rfl (.tmp 28) (.tmp 30) 45 32 (.agg #[(.bool false), (.int .i64 0), (.int .i64 0), (.int .i64 0), (.int .i64 0), (.int .i64 0), (.string ⟨#[]⟩)]) 64 rfl Try.underlying45 info32 rfl (by decide) (by omega) u5 x5_1 (⟨t194, (⟨t195, t196⟩ : S23), (⟨t197, t198, t199, t200⟩ : S25)⟩ : S32) [.bool t194, .int .i64 t195, .int .i64 t196, .int .i64 t197, .int .i64 t198, .int .i64 t199, .string t200] (fun k_ => k_ ≠ gb203) (fun _ => False) rfl (by first | (go_simp; done) | (go_simp; rfl)) ?aP (fun _ hk => hk.elim) ?aF ?aO ?aB ?aS ?aL ?_; (case aP => exact k32_mkM _ _ _ (⟨t194, (⟨t195, t196⟩ : S23), (⟨t197, t198, t199, t200⟩ : S25)⟩ : S32)); (case aB => exact (by repeat (first | (with_reducible first | exact HB.out | apply below_alloc | apply pw_below_drewN | apply below_drew1 | refine below_set ?_ GE203.out) | exact HB.out))); (case aF => exact (fun k_ hk => Kd.freshB (g := gb203) (o := .cells #[.bool t194, .int .i64 t195, .int .i64 t196, .int .i64 t197, .int .i64 t198, .int .i64 t199, .string t200] 32 (0, 0)) (by (with_reducible repeat (first | refine blk_drewN ?_ _ | refine blk_drew ?_ | refine blk_alloc ?_ _)); refine blk_put (cs := #[.bool t194, .int .i64 t195, .int .i64 t196, .int .i64 t197, .int .i64 t198, .int .i64 t199, .string (⟨#[]⟩ : ByteArray)]) ?_ 6 _ rfl; (with_reducible repeat (first | refine blk_drewN ?_ _ | refine blk_drew ?_ | refine blk_alloc ?_ _)); refine blk_put (cs := #[.bool t194, .int .i64 t195, .int .i64 t196, .int .i64 t197, .int .i64 t198, .int .i64 0, .string (⟨#[]⟩ : ByteArray)]) ?_ 5 _ rfl; (with_reducible repeat (first | refine blk_drewN ?_ _ | refine blk_drew ?_ | refine blk_alloc ?_ _)); refine blk_put (cs := #[.bool t194, .int .i64 t195, .int .i64 t196, .int .i64 t197, .int .i64 0, .int .i64 0, .string (⟨#[]⟩ : ByteArray)]) ?_ 4 _ rfl; (with_reducible repeat (first | refine blk_drewN ?_ _ | refine blk_drew ?_ | refine blk_alloc ?_ _)); refine blk_put (cs := #[.bool t194, .int .i64 t195, .int .i64 t196, .int .i64 0, .int .i64 0, .int .i64 0, .string (⟨#[]⟩ : ByteArray)]) ?_ 3 _ rfl; (with_reducible repeat (first | refine blk_drewN ?_ _ | refine blk_drew ?_ | refine blk_alloc ?_ _)); refine blk_put (cs := #[.bool t194, .int .i64 t195, .int .i64 0, .int .i64 0, .int .i64 0, .int .i64 0, .string (⟨#[]⟩ : ByteArray)]) ?_ 2 _ rfl; (with_reducible repeat (first | refine blk_drewN ?_ _ | refine blk_drew ?_ | refine blk_alloc ?_ _)); refine blk_put (cs := #[.bool t194, .int .i64 0, .int .i64 0, .int .i64 0, .int .i64 0, .int .i64 0, .string (⟨#[]⟩ : ByteArray)]) ?_ 1 _ rfl; (with_reducible repeat (first | refine blk_drewN ?_ _ | refine blk_drew ?_ | refine blk_alloc ?_ _)); refine blk_put (cs := #[.bool false, .int .i64 0, .int .i64 0, .int .i64 0, .int .i64 0, .int .i64 0, .string (⟨#[]⟩ : ByteArray)]) ?_ 0 _ rfl; (with_reducible repeat (first | refine blk_drewN ?_ _ | refine blk_drew ?_ | refine blk_alloc ?_ _)); exact BK203.out) k_ hk)); (case aO => exact (by (with_reducible repeat (first | apply Kd.R_alloc | apply Kd.R_drewN | apply Kd.R_drew)); first | exact Kd.R_mono (Kd.R_far (p := ⟨gb203, 6, none⟩) (Kd.R_far (p := ⟨gb203, 5, none⟩) (Kd.R_far (p := ⟨gb203, 4, none⟩) (Kd.R_far (p := ⟨gb203, 3, none⟩) (Kd.R_far (p := ⟨gb203, 2, none⟩) (Kd.R_far (p := ⟨gb203, 1, none⟩) (Kd.R_far (p := ⟨gb203, 0, none⟩) (Kd.R_mono HO_5.out (fun k_ hk => (⟨hk, hk.2⟩ : _ ∧ k_ ≠ gb203))) (fun _ hk => hk.2) (.bool t194)) (fun _ hk => hk.2) (.int .i64 t195)) (fun _ hk => hk.2) (.int .i64 t196)) (fun _ hk => hk.2) (.int .i64 t197)) (fun _ hk => hk.2) (.int .i64 t198)) (fun _ hk => hk.2) (.int .i64 t199)) (fun _ hk => hk.2) (.string t200)) (fun _ hk => hk.1.2) | exact Kd.R_mono (Kd.R_mono (Kd.R_far (p := ⟨gb203, 6, none⟩) (Kd.R_far (p := ⟨gb203, 5, none⟩) (Kd.R_far (p := ⟨gb203, 4, none⟩) (Kd.R_far (p := ⟨gb203, 3, none⟩) (Kd.R_far (p := ⟨gb203, 2, none⟩) (Kd.R_far (p := ⟨gb203, 1, none⟩) (Kd.R_far (p := ⟨gb203, 0, none⟩) (Kd.R_mono HO_5.out (fun k_ hk => (⟨hk, hk.2⟩ : _ ∧ k_ ≠ gb203))) (fun _ hk => hk.2) (.bool t194)) (fun _ hk => hk.2) (.int .i64 t195)) (fun _ hk => hk.2) (.int .i64 t196)) (fun _ hk => hk.2) (.int .i64 t197)) (fun _ hk => hk.2) (.int .i64 t198)) (fun _ hk => hk.2) (.int .i64 t199)) (fun _ hk => hk.2) (.string t200)) (fun _ hk => hk.1.2)) (fun _ h_ => by simp only [Kd.own_len] at h_ ⊢; exact h_))); (case aS => exact (below_size (by repeat (first | (with_reducible first | exact HB.out | apply below_alloc | apply pw_below_drewN | apply below_drew1 | refine below_set ?_ GE203.out) | exact HB.out)))); (case aL => have := LMc7.out; omega); intro v205 w12 ho hb hg hat; rw [← Ny204.out] at ho; have n0_ := Aside0.mk (blk_grown (g := gb203) (o := .cells #[.bool t194, .int .i64 t195, .int .i64 t196, .int .i64 t197, .int .i64 t198, .int .i64 t199, .string t200] 32 (0, 0)) (by (with_reducible repeat (first | refine blk_drewN ?_ _ | refine blk_drew ?_ | refine blk_alloc ?_ _)); refine blk_put (cs := #[.bool t194, .int .i64 t195, .int .i64 t196, .int .i64 t197, .int .i64 t198, .int .i64 t199, .string (⟨#[]⟩ : ByteArray)]) ?_ 6 _ rfl; (with_reducible repeat (first | refine blk_drewN ?_ _ | refine blk_drew ?_ | refine blk_alloc ?_ _)); refine blk_put (cs := #[.bool t194, .int .i64 t195, .int .i64 t196, .int .i64 t197, .int .i64 t198, .int .i64 0, .string (⟨#[]⟩ : ByteArray)]) ?_ 5 _ rfl; (with_reducible repeat (first | refine blk_drewN ?_ _ | refine blk_drew ?_ | refine blk_alloc ?_ _)); refine blk_put (cs := #[.bool t194, .int .i64 t195, .int .i64 t196, .int .i64 t197, .int .i64 0, .int .i64 0, .string (⟨#[]⟩ : ByteArray)]) ?_ 4 _ rfl; (with_reducible repeat (first | refine blk_drewN ?_ _ | refine blk_drew ?_ | refine blk_alloc ?_ _)); refine blk_put (cs := #[.bool t194, .int .i64 t195, .int .i64 t196, .int .i64 0, .int .i64 0, .int .i64 0, .string (⟨#[]⟩ : ByteArray)]) ?_ 3 _ rfl; (with_reducible repeat (first | refine blk_drewN ?_ _ | refine blk_drew ?_ | refine blk_alloc ?_ _)); refine blk_put (cs := #[.bool t194, .int .i64 t195, .int .i64 0, .int .i64 0, .int .i64 0, .int .i64 0, .string (⟨#[]⟩ : ByteArray)]) ?_ 2 _ rfl; (with_reducible repeat (first | refine blk_drewN ?_ _ | refine blk_drew ?_ | refine blk_alloc ?_ _)); refine blk_put (cs := #[.bool t194, .int .i64 0, .int .i64 0, .int .i64 0, .int .i64 0, .int .i64 0, .string (⟨#[]⟩ : ByteArray)]) ?_ 1 _ rfl; (with_reducible repeat (first | refine blk_drewN ?_ _ | refine blk_drew ?_ | refine blk_alloc ?_ _)); refine blk_put (cs := #[.bool false, .int .i64 0, .int .i64 0, .int .i64 0, .int .i64 0, .int .i64 0, .string (⟨#[]⟩ : ByteArray)]) ?_ 0 _ rfl; (with_reducible repeat (first | refine blk_drewN ?_ _ | refine blk_drew ?_ | refine blk_alloc ?_ _)); exact BK203.out) hg (Kd.R_away HO_5.out (fun _ hk => hk.2))); have n1_ := Aside0.mk (hb); have n2_ := Aside0.mk (ho); clear BK203; clear HB; clear HO_5; have BK203 := n0_; have HB := n1_; have HO206 := n2_; clear n0_ n1_ n2_; clear ho hb hg hat))
                go_roundg k1
                case measure => have := HK1.out; omega
                case rel => exact ⟨(y204), (wrap64 (x6_1 + t201)), (by first | rfl | (simp; done) | (simp [*]; done)), H', ⟨by have := HK1.out; omega⟩, ⟨by (with_reducible repeat (first | apply Kd.R_alloc | apply Kd.R_drewN | apply Kd.R_drew)); first | exact Kd.R_mono HO206.out (fun _ hk => trivial) | exact Kd.R_mono (Kd.R_mono HO206.out (fun _ hk => trivial)) (fun _ h_ => by simp only [Kd.own_len] at h_ ⊢; exact h_)⟩, ⟨by repeat (first | (with_reducible first | exact HB.out | apply below_alloc | apply pw_below_drewN | apply below_drew1 | refine below_set ?_ GE203.out) | exact HB.out)⟩⟩
              · rw [if_neg c7] at H
                exact absurd H (by simp)
            · rw [if_neg c6] at H
              have c6b0 : (t202 == 0) = false := beq_eq_false_iff_ne.mpr c6
              have c6b1 : (t202 != 0) = true := bne_iff_ne.mpr c6
              simp only [Option.some.injEq, Prod.mk.injEq] at H
              obtain ⟨rfl, rfl, rfl⟩ := H
              obtain ⟨i013, hi013, _, hsz13, _⟩ := info_parts info5
              obtain ⟨A13, hcut13, hA13, hC13⟩ := print_drop_of (P := Try.prog) (Value.int .u8) 0 30 5 .i64 Try.underlying30 hi013 hsz13 A0 c0 l0 x6_1 (of_decide_eq_true (by first | (with_reducible assumption) | assumption)) (of_decide_eq_true (by first | (with_reducible assumption) | assumption)) HC0.out
              have HR193 := Aside0.mk (Kd.C_of_reads (h1 := fun _ => rfl) (hA13 _ (Kd.reads_of_C HR0.out)))
              have HC193 := Aside0.mk hC13
              clear hA13 hC13 hi013 hsz13
              go_wp2_with (first | ((with_reducible refine gate_callee (f := 16) rfl ?_); refine goesL_ (some 18) rfl rfl Try.func16 (by kernel_rfl) rfl #[.slice A13 (l0.drop (x6_1 : Int).toNat).length (c0 - x6_1.toNat)] rfl (by (try simp only [List.map_toArray, List.map_cons, List.map_nil]); first | done | (rw [show (l0.drop (x6_1 : Int).toNat).length = (l0.length - x6_1.toNat) from List.length_drop] <;> rfl) | rfl | (simp only [List.length_drop, List.length_take]; rfl)) ?_; (with_reducible refine (wal_Decode.calls k1 _ _ (l0.drop (x6_1 : Int).toNat) t194 t195 t196 t197 t198 t199 t200 t201 t202 _ ?side1 ?side2 A5.out).mono ?_); (case side1 => repeat (first | exact (Kd.C_below HR193.out HB.out) | (with_reducible refine Kd.C_alloc ?_ _) | (with_reducible refine Kd.C_drewN ?_ _) | (with_reducible refine Kd.C_drew ?_))); (case side2 => exact HC193.out); rintro e w14 ⟨rfl, hb⟩; refine ⟨_, rfl, ?_⟩; have n0_ := Aside0.mk (Kd.R_below (by (with_reducible repeat (first | apply Kd.R_alloc | apply Kd.R_drewN | apply Kd.R_drew)); first | exact HO_5.out | exact Kd.R_mono HO_5.out (fun _ h_ => by simp only [Kd.own_len] at h_ ⊢; exact h_)) hb); have n1_ := Aside0.mk (below_step (by repeat (first | (with_reducible first | exact HB.out | apply below_alloc | apply pw_below_drewN | apply below_drew1) | exact HB.out)) hb); clear HO_5; clear HB; have HO_5 := n0_; have HB := n1_; clear n0_ n1_; (try clear hb); (try clear hb2); (try clear hk); (try clear hi)) | ((with_reducible refine gate_dst (N := 7) rfl ?_); refine box_event ?hg (N := 7) ?hd (cs := #[.bool false, .int .i64 0, .int .i64 0, .int .i64 0, .int .i64 0, .int .i64 0, .string (⟨#[]⟩ : ByteArray)]) (t := 32) ?hr ?_; (case hd => rfl); (case hg => rfl); (case hr => first | (go_simp; done) | (go_simp; rfl)); intro gb203 hg w15 hbox hb; have n0_ := Aside0.mk (Kd.R_below (Kd.R_elderB (by (with_reducible repeat (first | apply Kd.R_alloc | apply Kd.R_drewN | apply Kd.R_drew)); first | exact HO_5.out | exact Kd.R_mono HO_5.out (fun _ h_ => by simp only [Kd.own_len] at h_ ⊢; exact h_)) gb203 (Nat.le_of_eq hg.symm)) hb); have n1_ := Aside0.mk (below_step (by repeat (first | (with_reducible first | exact HB.out | apply below_alloc | apply pw_below_drewN | apply below_drew1) | exact HB.out)) hb); have n2_ := Aside0.mk (hbox); have n3_ := Aside0.mk ((by rw [hg]; exact (below_size (by repeat (first | (with_reducible first | exact HB.out | apply below_alloc | apply pw_below_drewN | apply below_drew1) | exact HB.out))) : w.heap.size ≤ gb203)); have n4_ := Aside0.mk ((by rw [hg]; exact (below_size (by repeat (first | (with_reducible first | exact HB.out | apply below_alloc | apply pw_below_drewN | apply below_drew1) | exact HB.out))) : w.heap.size ≤ gb203)); clear HO_5; clear HB; have HO_5 := n0_; have HB := n1_; have BK203 := n2_; have GW203 := n3_; have GE203 := n4_; clear n0_ n1_ n2_ n3_ n4_; clear hb hbox hg; have hcz16_0 : w15.cell? ⟨gb203, 0, none⟩ = some (.bool false) := (blk_cell BK203.out 0).trans rfl; have hcz16_1 : w15.cell? ⟨gb203, 1, none⟩ = some (.int .i64 0) := (blk_cell BK203.out 1).trans rfl; have hcz16_2 : w15.cell? ⟨gb203, 2, none⟩ = some (.int .i64 0) := (blk_cell BK203.out 2).trans rfl; have hcz16_3 : w15.cell? ⟨gb203, 3, none⟩ = some (.int .i64 0) := (blk_cell BK203.out 3).trans rfl; have hcz16_4 : w15.cell? ⟨gb203, 4, none⟩ = some (.int .i64 0) := (blk_cell BK203.out 4).trans rfl; have hcz16_5 : w15.cell? ⟨gb203, 5, none⟩ = some (.int .i64 0) := (blk_cell BK203.out 5).trans rfl; have hcz16_6 : w15.cell? ⟨gb203, 6, none⟩ = some (.string (⟨#[]⟩ : ByteArray)) := (blk_cell BK203.out 6).trans rfl; have hfz16_0 := blk_frozen BK203.out 0; have hfz16_1 := blk_frozen BK203.out 1; have hfz16_2 := blk_frozen BK203.out 2; have hfz16_3 := blk_frozen BK203.out 3; have hfz16_4 := blk_frozen BK203.out 4; have hfz16_5 := blk_frozen BK203.out 5; have hfz16_6 := blk_frozen BK203.out 6))
              go_ret3
              exact ⟨_, by first | rfl | (simp [errW_none, errW_some] <;> rfl) | (simp [*, errW_none, errW_some] <;> rfl), by (with_reducible repeat (first | apply Kd.R_alloc | apply Kd.R_drewN | apply Kd.R_drew)); first | exact Kd.R_mono (Kd.R_far (p := ⟨gb203, 6, none⟩) (Kd.R_far (p := ⟨gb203, 5, none⟩) (Kd.R_far (p := ⟨gb203, 4, none⟩) (Kd.R_far (p := ⟨gb203, 3, none⟩) (Kd.R_far (p := ⟨gb203, 2, none⟩) (Kd.R_far (p := ⟨gb203, 1, none⟩) (Kd.R_far (p := ⟨gb203, 0, none⟩) (Kd.R_mono HO_5.out (fun k_ hk => (⟨hk, hk.2⟩ : _ ∧ k_ ≠ gb203))) (fun _ hk => hk.2) (.bool t194)) (fun _ hk => hk.2) (.int .i64 t195)) (fun _ hk => hk.2) (.int .i64 t196)) (fun _ hk => hk.2) (.int .i64 t197)) (fun _ hk => hk.2) (.int .i64 t198)) (fun _ hk => hk.2) (.int .i64 t199)) (fun _ hk => hk.2) (.string t200)) (fun _ hk => trivial) | exact Kd.R_mono (Kd.R_mono (Kd.R_far (p := ⟨gb203, 6, none⟩) (Kd.R_far (p := ⟨gb203, 5, none⟩) (Kd.R_far (p := ⟨gb203, 4, none⟩) (Kd.R_far (p := ⟨gb203, 3, none⟩) (Kd.R_far (p := ⟨gb203, 2, none⟩) (Kd.R_far (p := ⟨gb203, 1, none⟩) (Kd.R_far (p := ⟨gb203, 0, none⟩) (Kd.R_mono HO_5.out (fun k_ hk => (⟨hk, hk.2⟩ : _ ∧ k_ ≠ gb203))) (fun _ hk => hk.2) (.bool t194)) (fun _ hk => hk.2) (.int .i64 t195)) (fun _ hk => hk.2) (.int .i64 t196)) (fun _ hk => hk.2) (.int .i64 t197)) (fun _ hk => hk.2) (.int .i64 t198)) (fun _ hk => hk.2) (.int .i64 t199)) (fun _ hk => hk.2) (.string t200)) (fun _ hk => trivial)) (fun _ h_ => by simp only [Kd.own_len] at h_ ⊢; exact h_), by repeat (first | (with_reducible first | exact HB.out | apply below_alloc | apply pw_below_drewN | apply below_drew1 | refine below_set ?_ GE203.out) | exact HB.out)⟩
          · rw [if_neg c4] at H
            exact absurd H (by simp)
        · rw [if_neg c3] at H
          exact absurd H (by simp)
      · rw [if_neg c2] at H
        have c2b0 : decide (x6_1 < (l0.length : Int)) = false := decide_eq_false c2
        clear c2
        simp only [Option.some.injEq, Prod.mk.injEq] at H
        obtain ⟨rfl, rfl, rfl⟩ := H
        go_wp2
        go_ret3
        exact ⟨_, by first | rfl | (simp [errW_none, errW_some] <;> rfl) | (simp [*, errW_none, errW_some] <;> rfl), by (with_reducible repeat (first | apply Kd.R_alloc | apply Kd.R_drewN | apply Kd.R_drew)); first | exact HO_5.out | exact Kd.R_mono HO_5.out (fun _ h_ => by simp only [Kd.own_len] at h_ ⊢; exact h_), by repeat (first | (with_reducible first | exact HB.out | apply below_alloc | apply pw_below_drewN | apply below_drew1) | exact HB.out)⟩

/-! ### wal_may: function 45 -/
def wal_may.f (k : Nat) (a0_0 : Int) (a0_1 : Int) (a0_2 : ByteArray) (a0_3 : ByteArray) : Option (Bool) := (wal_in.f k 0 1099511627776 (([a0_0, a0_1] : List Int))).bind fun t211 => (if t211 = true then (if (a0_2.size : Int) ≤ 50 then (some (decide ((a0_3.size : Int) ≤ 200000))) else (some false)) else (some false))
theorem wal_may.mono : ∀ a0 a1 a2 a3 k, LeO (wal_may.f k a0 a1 a2 a3) (wal_may.f (k + 1) a0 a1 a2 a3) := by
  intro a0 a1 a2 a3 k
  unfold wal_may.f
  repeat' first
      | (with_reducible exact wal_in.mono _ _ _ _)
      | (with_reducible exact LeO.refl _)
      | (with_reducible exact LeO.none _)
      | (with_reducible refine LeO.ite ?_ ?_)
      | (with_reducible refine LeO.bind ?_ (fun _ => ?_))
      | exact wal_in.mono _ _ _ _
      | exact LeO.none _
      | refine LeO.ite ?_ ?_
      | refine LeO.bind ?_ (fun _ => ?_)
set_option maxHeartbeats 8000000 in
set_option maxRecDepth 100000 in
theorem wal_may.calls (k : Nat) (a0_0 : Int) (a0_1 : Int) (a0_2 : ByteArray) (a0_3 : ByteArray) (r : Bool) (w : World) (h : wal_may.f k a0_0 a0_1 a0_2 a0_3 = some r) :
    Calls Try.prog 45 #[.agg #[.int .i64 a0_0, .int .i64 a0_1, .string a0_2, .string a0_3]] w fun e w' => e = .returned (.bool r) ∧ Below w.heap.size w w' := by
  have hu56 := Try.underlying56
  have HB := Aside0.mk (Below.refl w.heap.size w)
  have H : ((wal_in.f k 0 1099511627776 (([a0_0, a0_1] : List Int))).bind fun t211 => (if t211 = true then (if (a0_2.size : Int) ≤ 50 then (some (decide ((a0_3.size : Int) ≤ 200000))) else (some false)) else (some false))) = some r := h
  clear h
  obtain ⟨y208, hy208⟩ : ∃ y_ : List Int, y_ = (([a0_0, a0_1] : List Int)) := ⟨_, rfl⟩
  replace H : ((wal_in.f k 0 1099511627776 y208).bind fun t211 => (if t211 = true then (if (a0_2.size : Int) ≤ 50 then (some (decide ((a0_3.size : Int) ≤ 200000))) else (some false)) else (some false))) = some r := by first | (rw [hy208]; with_reducible exact H) | (have H2_ := (Option.bind_some _ _).symm.trans H; rw [hy208]; with_reducible exact H2_) | (have H2_ := (Option.bind_some _ _).symm.trans H; with_reducible exact H2_) | with_reducible exact H | (rw [hy208]; exact H) | exact H
  have Ny208 := Aside0.mk hy208
  clear hy208
  replace H := Option.bind_eq_some_iff.mp H
  obtain ⟨t211, A20, H⟩ := H
  replace H : (if t211 = true then (if (a0_2.size : Int) ≤ 50 then (some (decide ((a0_3.size : Int) ≤ 200000))) else (some false)) else (some false)) = some r := H
  have A2 := Aside0.mk A20
  clear A20
  by_cases c3 : t211 = true
  · subst c3
    have H1 : (if (a0_2.size : Int) ≤ 50 then (some (decide ((a0_3.size : Int) ≤ 200000))) else (some false)) = some r := by rw [if_pos rfl] at H; exact H
    clear H
    have H := H1
    clear H1
    by_cases c4 : (a0_2.size : Int) ≤ 50
    · rw [if_pos c4] at H
      have c4b0 : decide ((a0_2.size : Int) ≤ 50) = true := decide_eq_true c4
      have c4b1 : decide (a0_2.size ≤ 50) = true := decide_eq_true (by omega)
      clear c4
      obtain rfl := Option.some.inj H
      go_enter Try.func45, Try.ntmps45
      go_wp2_with (first | ((with_reducible refine gate_dst (N := 1) rfl ?_); (try (refine gate_guard (by rfl) ?_; dsimp only)); refine box_event ?hg (N := 1) ?hd (cs := #[.int .i64 a0_0, .int .i64 a0_1, .string a0_2, .string a0_3]) (t := 56) ?hr ?_; (case hd => rfl); (case hg => rfl); (case hr => first | (go_simp; done) | (go_simp; rfl)); intro gb207 hg w5 hbox hb; have n0_ := Aside0.mk (below_step (by repeat (first | (with_reducible first | exact HB.out | apply below_alloc | apply pw_below_drewN | apply below_drew1) | exact HB.out)) hb); have n1_ := Aside0.mk (hbox); have n2_ := Aside0.mk ((by rw [hg]; exact (below_size (by repeat (first | (with_reducible first | exact HB.out | apply below_alloc | apply pw_below_drewN | apply below_drew1) | exact HB.out))) : w.heap.size ≤ gb207)); have n3_ := Aside0.mk ((by rw [hg]; exact (below_size (by repeat (first | (with_reducible first | exact HB.out | apply below_alloc | apply pw_below_drewN | apply below_drew1) | exact HB.out))) : w.heap.size ≤ gb207)); clear HB; have HB := n0_; have BK207 := n1_; have GW207 := n2_; have GE207 := n3_; clear n0_ n1_ n2_ n3_; clear hb hbox hg; have hcz6_0 : w5.cell? ⟨gb207, 0, none⟩ = some (.int .i64 a0_0) := (blk_cell BK207.out 0).trans rfl; have hcz6_1 : w5.cell? ⟨gb207, 1, none⟩ = some (.int .i64 a0_1) := (blk_cell BK207.out 1).trans rfl; have hcz6_2 : w5.cell? ⟨gb207, 2, none⟩ = some (.string a0_2) := (blk_cell BK207.out 2).trans rfl; have hcz6_3 : w5.cell? ⟨gb207, 3, none⟩ = some (.string a0_3) := (blk_cell BK207.out 3).trans rfl; have hfz6_0 := blk_frozen BK207.out 0; have hfz6_1 := blk_frozen BK207.out 1; have hfz6_2 := blk_frozen BK207.out 2; have hfz6_3 := blk_frozen BK207.out 3) | ((with_reducible refine gate_dst (N := 7) rfl ?_); (try (refine gate_guard (by rfl) ?_; dsimp only)); refine Kd.R_lit (Kd.int .i64) _ 2 ?hg (N := 7) ?hd (xs := ([a0_0, a0_1] : List Int)) (inner := [.int .i64 a0_0, .int .i64 a0_1]) (ok := fun _ => True) (okp := fun _ => True) ?hr ?hp (fun _ hk => hk) trivial (Below.refl _ _) (Nat.le_refl _) (by simp) ?_; (case hd => rfl); (case hg => rfl); (case hr => first | (go_simp; done) | (go_simp; rfl)); (case hp => exact (Reps.one (show Kd.M (Kd.int .i64) _ _ _ a0_0 [.int .i64 a0_0] from rfl) (Reps.one (show Kd.M (Kd.int .i64) _ _ _ a0_1 [.int .i64 a0_1] from rfl) (Reps.none _ _)))); intro v209 w7 ho8 hb hg_ hnew_; clear hg_ hnew_; (first | rw [← Ny208.out] at ho8 | (simp only [Int.reduceToNat] at ho8; rw [← Ny208.out] at ho8)); have n0_ := Aside0.mk (Kd.R_lower ho8 (below_size (by repeat (first | (with_reducible first | exact HB.out | apply below_alloc | apply pw_below_drewN | apply below_drew1 | refine below_set ?_ GE207.out) | exact HB.out)))); have n1_ := Aside0.mk (blk_below (g := gb207) (o := .cells #[.int .i64 a0_0, .int .i64 a0_1, .string a0_2, .string a0_3] 56 (0, 0)) (by (with_reducible repeat (first | refine blk_drewN ?_ _ | refine blk_drew ?_ | refine blk_alloc ?_ _)); exact BK207.out) hb); have n2_ := Aside0.mk (below_step (by repeat (first | (with_reducible first | exact HB.out | apply below_alloc | apply pw_below_drewN | apply below_drew1 | refine below_set ?_ GE207.out) | exact HB.out)) hb); clear BK207; clear HB; have HO210 := n0_; have BK207 := n1_; have HB := n2_; clear n0_ n1_ n2_; clear hb ho8; obtain ⟨Ao9, co9, eo9⟩ := Kd.R_slice HO210.out; subst eo9) | ((with_reducible refine gate_callee (f := 34) rfl ?_); refine goesL_ (some 8) rfl rfl Try.func34 (by kernel_rfl) rfl #[.int .i64 0, .int .i64 1099511627776, .slice Ao9 y208.length co9] rfl (by (try simp only [List.map_toArray, List.map_cons, List.map_nil]); first | done | rfl | (simp only [List.length_drop, List.length_take]; rfl)) ?_; (with_reducible refine (wal_in.calls k 0 1099511627776 _ _ y208 true _ ?side1 ?side2 A2.out).mono ?_); (case side1 => repeat (first | exact (Kd.R_reads' HO210.out).2.2 | (with_reducible refine Kd.C_alloc ?_ _) | (with_reducible refine Kd.C_drewN ?_ _) | (with_reducible refine Kd.C_drew ?_))); (case side2 => exact (Kd.R_reads' HO210.out).2.1); rintro e w' ⟨rfl, ⟨nd, rfl⟩⟩; refine ⟨_, rfl, ?_⟩; have hcz10_0 : w7.cell? ⟨gb207, 0, none⟩ = some (.int .i64 a0_0) := (blk_cell BK207.out 0).trans rfl; have hcz10_1 : w7.cell? ⟨gb207, 1, none⟩ = some (.int .i64 a0_1) := (blk_cell BK207.out 1).trans rfl; have hcz10_2 : w7.cell? ⟨gb207, 2, none⟩ = some (.string a0_2) := (blk_cell BK207.out 2).trans rfl; have hcz10_3 : w7.cell? ⟨gb207, 3, none⟩ = some (.string a0_3) := (blk_cell BK207.out 3).trans rfl; have hfz10_0 := blk_frozen BK207.out 0; have hfz10_1 := blk_frozen BK207.out 1; have hfz10_2 := blk_frozen BK207.out 2; have hfz10_3 := blk_frozen BK207.out 3))
      go_ret
      exact ⟨by first | rfl | (simp [errW_none, errW_some] <;> rfl) | (simp [*, errW_none, errW_some] <;> rfl), by repeat (first | (with_reducible first | exact HB.out | apply below_alloc | apply pw_below_drewN | apply below_drew1 | refine below_set ?_ GE207.out) | exact HB.out)⟩
    · rw [if_neg c4] at H
      have c4b0 : decide ((a0_2.size : Int) ≤ 50) = false := decide_eq_false c4
      have c4b1 : decide (a0_2.size ≤ 50) = false := decide_eq_false (by omega)
      clear c4
      obtain rfl := Option.some.inj H
      go_enter Try.func45, Try.ntmps45
      go_wp2_with (first | ((with_reducible refine gate_dst (N := 1) rfl ?_); (try (refine gate_guard (by rfl) ?_; dsimp only)); refine box_event ?hg (N := 1) ?hd (cs := #[.int .i64 a0_0, .int .i64 a0_1, .string a0_2, .string a0_3]) (t := 56) ?hr ?_; (case hd => rfl); (case hg => rfl); (case hr => first | (go_simp; done) | (go_simp; rfl)); intro gb207 hg w11 hbox hb; have n0_ := Aside0.mk (below_step (by repeat (first | (with_reducible first | exact HB.out | apply below_alloc | apply pw_below_drewN | apply below_drew1) | exact HB.out)) hb); have n1_ := Aside0.mk (hbox); have n2_ := Aside0.mk ((by rw [hg]; exact (below_size (by repeat (first | (with_reducible first | exact HB.out | apply below_alloc | apply pw_below_drewN | apply below_drew1) | exact HB.out))) : w.heap.size ≤ gb207)); have n3_ := Aside0.mk ((by rw [hg]; exact (below_size (by repeat (first | (with_reducible first | exact HB.out | apply below_alloc | apply pw_below_drewN | apply below_drew1) | exact HB.out))) : w.heap.size ≤ gb207)); clear HB; have HB := n0_; have BK207 := n1_; have GW207 := n2_; have GE207 := n3_; clear n0_ n1_ n2_ n3_; clear hb hbox hg; have hcz12_0 : w11.cell? ⟨gb207, 0, none⟩ = some (.int .i64 a0_0) := (blk_cell BK207.out 0).trans rfl; have hcz12_1 : w11.cell? ⟨gb207, 1, none⟩ = some (.int .i64 a0_1) := (blk_cell BK207.out 1).trans rfl; have hcz12_2 : w11.cell? ⟨gb207, 2, none⟩ = some (.string a0_2) := (blk_cell BK207.out 2).trans rfl; have hcz12_3 : w11.cell? ⟨gb207, 3, none⟩ = some (.string a0_3) := (blk_cell BK207.out 3).trans rfl; have hfz12_0 := blk_frozen BK207.out 0; have hfz12_1 := blk_frozen BK207.out 1; have hfz12_2 := blk_frozen BK207.out 2; have hfz12_3 := blk_frozen BK207.out 3) | ((with_reducible refine gate_dst (N := 7) rfl ?_); (try (refine gate_guard (by rfl) ?_; dsimp only)); refine Kd.R_lit (Kd.int .i64) _ 2 ?hg (N := 7) ?hd (xs := ([a0_0, a0_1] : List Int)) (inner := [.int .i64 a0_0, .int .i64 a0_1]) (ok := fun _ => True) (okp := fun _ => True) ?hr ?hp (fun _ hk => hk) trivial (Below.refl _ _) (Nat.le_refl _) (by simp) ?_; (case hd => rfl); (case hg => rfl); (case hr => first | (go_simp; done) | (go_simp; rfl)); (case hp => exact (Reps.one (show Kd.M (Kd.int .i64) _ _ _ a0_0 [.int .i64 a0_0] from rfl) (Reps.one (show Kd.M (Kd.int .i64) _ _ _ a0_1 [.int .i64 a0_1] from rfl) (Reps.none _ _)))); intro v209 w13 ho14 hb hg_ hnew_; clear hg_ hnew_; (first | rw [← Ny208.out] at ho14 | (simp only [Int.reduceToNat] at ho14; rw [← Ny208.out] at ho14)); have n0_ := Aside0.mk (Kd.R_lower ho14 (below_size (by repeat (first | (with_reducible first | exact HB.out | apply below_alloc | apply pw_below_drewN | apply below_drew1 | refine below_set ?_ GE207.out) | exact HB.out)))); have n1_ := Aside0.mk (blk_below (g := gb207) (o := .cells #[.int .i64 a0_0, .int .i64 a0_1, .string a0_2, .string a0_3] 56 (0, 0)) (by (with_reducible repeat (first | refine blk_drewN ?_ _ | refine blk_drew ?_ | refine blk_alloc ?_ _)); exact BK207.out) hb); have n2_ := Aside0.mk (below_step (by repeat (first | (with_reducible first | exact HB.out | apply below_alloc | apply pw_below_drewN | apply below_drew1 | refine below_set ?_ GE207.out) | exact HB.out)) hb); clear BK207; clear HB; have HO210 := n0_; have BK207 := n1_; have HB := n2_; clear n0_ n1_ n2_; clear hb ho14; obtain ⟨Ao15, co15, eo15⟩ := Kd.R_slice HO210.out; subst eo15) | ((with_reducible refine gate_callee (f := 34) rfl ?_); refine goesL_ (some 8) rfl rfl Try.func34 (by kernel_rfl) rfl #[.int .i64 0, .int .i64 1099511627776, .slice Ao15 y208.length co15] rfl (by (try simp only [List.map_toArray, List.map_cons, List.map_nil]); first | done | rfl | (simp only [List.length_drop, List.length_take]; rfl)) ?_; (with_reducible refine (wal_in.calls k 0 1099511627776 _ _ y208 true _ ?side1 ?side2 A2.out).mono ?_); (case side1 => repeat (first | exact (Kd.R_reads' HO210.out).2.2 | (with_reducible refine Kd.C_alloc ?_ _) | (with_reducible refine Kd.C_drewN ?_ _) | (with_reducible refine Kd.C_drew ?_))); (case side2 => exact (Kd.R_reads' HO210.out).2.1); rintro e w' ⟨rfl, ⟨nd, rfl⟩⟩; refine ⟨_, rfl, ?_⟩; have hcz16_0 : w13.cell? ⟨gb207, 0, none⟩ = some (.int .i64 a0_0) := (blk_cell BK207.out 0).trans rfl; have hcz16_1 : w13.cell? ⟨gb207, 1, none⟩ = some (.int .i64 a0_1) := (blk_cell BK207.out 1).trans rfl; have hcz16_2 : w13.cell? ⟨gb207, 2, none⟩ = some (.string a0_2) := (blk_cell BK207.out 2).trans rfl; have hcz16_3 : w13.cell? ⟨gb207, 3, none⟩ = some (.string a0_3) := (blk_cell BK207.out 3).trans rfl; have hfz16_0 := blk_frozen BK207.out 0; have hfz16_1 := blk_frozen BK207.out 1; have hfz16_2 := blk_frozen BK207.out 2; have hfz16_3 := blk_frozen BK207.out 3))
      go_ret
      exact ⟨by first | rfl | (simp [errW_none, errW_some] <;> rfl) | (simp [*, errW_none, errW_some] <;> rfl), by repeat (first | (with_reducible first | exact HB.out | apply below_alloc | apply pw_below_drewN | apply below_drew1 | refine below_set ?_ GE207.out) | exact HB.out)⟩
  · replace c3 := Bool.eq_false_iff.mpr c3
    subst c3
    have H1 : (some false) = some r := by rw [if_neg (show ¬ (false = true) by decide)] at H; exact H
    clear H
    have H := H1
    clear H1
    obtain rfl := Option.some.inj H
    go_enter Try.func45, Try.ntmps45
    go_wp2_with (first | ((with_reducible refine gate_dst (N := 1) rfl ?_); (try (refine gate_guard (by rfl) ?_; dsimp only)); refine box_event ?hg (N := 1) ?hd (cs := #[.int .i64 a0_0, .int .i64 a0_1, .string a0_2, .string a0_3]) (t := 56) ?hr ?_; (case hd => rfl); (case hg => rfl); (case hr => first | (go_simp; done) | (go_simp; rfl)); intro gb207 hg w17 hbox hb; have n0_ := Aside0.mk (below_step (by repeat (first | (with_reducible first | exact HB.out | apply below_alloc | apply pw_below_drewN | apply below_drew1) | exact HB.out)) hb); have n1_ := Aside0.mk (hbox); have n2_ := Aside0.mk ((by rw [hg]; exact (below_size (by repeat (first | (with_reducible first | exact HB.out | apply below_alloc | apply pw_below_drewN | apply below_drew1) | exact HB.out))) : w.heap.size ≤ gb207)); have n3_ := Aside0.mk ((by rw [hg]; exact (below_size (by repeat (first | (with_reducible first | exact HB.out | apply below_alloc | apply pw_below_drewN | apply below_drew1) | exact HB.out))) : w.heap.size ≤ gb207)); clear HB; have HB := n0_; have BK207 := n1_; have GW207 := n2_; have GE207 := n3_; clear n0_ n1_ n2_ n3_; clear hb hbox hg; have hcz18_0 : w17.cell? ⟨gb207, 0, none⟩ = some (.int .i64 a0_0) := (blk_cell BK207.out 0).trans rfl; have hcz18_1 : w17.cell? ⟨gb207, 1, none⟩ = some (.int .i64 a0_1) := (blk_cell BK207.out 1).trans rfl; have hcz18_2 : w17.cell? ⟨gb207, 2, none⟩ = some (.string a0_2) := (blk_cell BK207.out 2).trans rfl; have hcz18_3 : w17.cell? ⟨gb207, 3, none⟩ = some (.string a0_3) := (blk_cell BK207.out 3).trans rfl; have hfz18_0 := blk_frozen BK207.out 0; have hfz18_1 := blk_frozen BK207.out 1; have hfz18_2 := blk_frozen BK207.out 2; have hfz18_3 := blk_frozen BK207.out 3) | ((with_reducible refine gate_dst (N := 7) rfl ?_); (try (refine gate_guard (by rfl) ?_; dsimp only)); refine Kd.R_lit (Kd.int .i64) _ 2 ?hg (N := 7) ?hd (xs := ([a0_0, a0_1] : List Int)) (inner := [.int .i64 a0_0, .int .i64 a0_1]) (ok := fun _ => True) (okp := fun _ => True) ?hr ?hp (fun _ hk => hk) trivial (Below.refl _ _) (Nat.le_refl _) (by simp) ?_; (case hd => rfl); (case hg => rfl); (case hr => first | (go_simp; done) | (go_simp; rfl)); (case hp => exact (Reps.one (show Kd.M (Kd.int .i64) _ _ _ a0_0 [.int .i64 a0_0] from rfl) (Reps.one (show Kd.M (Kd.int .i64) _ _ _ a0_1 [.int .i64 a0_1] from rfl) (Reps.none _ _)))); intro v209 w19 ho20 hb hg_ hnew_; clear hg_ hnew_; (first | rw [← Ny208.out] at ho20 | (simp only [Int.reduceToNat] at ho20; rw [← Ny208.out] at ho20)); have n0_ := Aside0.mk (Kd.R_lower ho20 (below_size (by repeat (first | (with_reducible first | exact HB.out | apply below_alloc | apply pw_below_drewN | apply below_drew1 | refine below_set ?_ GE207.out) | exact HB.out)))); have n1_ := Aside0.mk (blk_below (g := gb207) (o := .cells #[.int .i64 a0_0, .int .i64 a0_1, .string a0_2, .string a0_3] 56 (0, 0)) (by (with_reducible repeat (first | refine blk_drewN ?_ _ | refine blk_drew ?_ | refine blk_alloc ?_ _)); exact BK207.out) hb); have n2_ := Aside0.mk (below_step (by repeat (first | (with_reducible first | exact HB.out | apply below_alloc | apply pw_below_drewN | apply below_drew1 | refine below_set ?_ GE207.out) | exact HB.out)) hb); clear BK207; clear HB; have HO210 := n0_; have BK207 := n1_; have HB := n2_; clear n0_ n1_ n2_; clear hb ho20; obtain ⟨Ao21, co21, eo21⟩ := Kd.R_slice HO210.out; subst eo21) | ((with_reducible refine gate_callee (f := 34) rfl ?_); refine goesL_ (some 8) rfl rfl Try.func34 (by kernel_rfl) rfl #[.int .i64 0, .int .i64 1099511627776, .slice Ao21 y208.length co21] rfl (by (try simp only [List.map_toArray, List.map_cons, List.map_nil]); first | done | rfl | (simp only [List.length_drop, List.length_take]; rfl)) ?_; (with_reducible refine (wal_in.calls k 0 1099511627776 _ _ y208 false _ ?side1 ?side2 A2.out).mono ?_); (case side1 => repeat (first | exact (Kd.R_reads' HO210.out).2.2 | (with_reducible refine Kd.C_alloc ?_ _) | (with_reducible refine Kd.C_drewN ?_ _) | (with_reducible refine Kd.C_drew ?_))); (case side2 => exact (Kd.R_reads' HO210.out).2.1); rintro e w' ⟨rfl, ⟨nd, rfl⟩⟩; refine ⟨_, rfl, ?_⟩))
    go_ret
    exact ⟨by first | rfl | (simp [errW_none, errW_some] <;> rfl) | (simp [*, errW_none, errW_some] <;> rfl), by repeat (first | (with_reducible first | exact HB.out | apply below_alloc | apply pw_below_drewN | apply below_drew1 | refine below_set ?_ GE207.out) | exact HB.out)⟩

end Go.Proofs.Ytoamlagpnnmnhab.PWalTorn
