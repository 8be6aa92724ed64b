/- NumOrder: a number that is nearer to nought takes no more bytes than one that is farther off: for every two numbers. -/
import Derived.Test.YtjnhlbelpflobaaPNumOrderx2
import Derived.Test.YtjnhlbelpflobaaSpec
namespace Go.Proofs.Ytjnhlbelpflobaa.Pure
open Go.RowKit Go.Proofs.Ytjnhlbelpflobaa.PNumOrder Go.Proofs.YtjnhlbelpflobaaW.PrintWords Go.Proofs.YtjnhlbelpflobaaW.PrintLast Go.Proofs.YtjnhlbelpflobaaW.PrintMore Go.Proofs.Ytjnhlbelpflobaa.Spec

theorem Put_loop (u : Nat) : ∀ (l : List Int), l.length + (enc u).length ≤ 140737488355328 → Ev (fun k => num_Put.l0 k l (u : Int)) (l ++ enc u) := by
  induction u using Nat.strongRecOn with
  | _ u ih =>
    intro l hl
    have hp := enc_pos u
    by_cases h : u < 128
    · refine Ev.step (f := fun _ => some (l ++ enc u)) (fun k => ?_) (Ev.now _)
      simp only [num_Put.l0]
      rw [if_neg (by omega), if_pos (by omega), enc_small h, show (u : Int) % 256 = (u : Int) from by omega]
    · refine Ev.step (f := fun k => num_Put.l0 k (l ++ [((u % 128 + 128 : Nat) : Int)]) ((u / 128 : Nat) : Int)) (fun k => ?_) ?_
      · simp only [num_Put.l0]
        rw [if_pos (by omega), if_pos (by omega), or128 (by omega) (by omega)]
        congr 2
        · congr 1
          omega
      · have e : l ++ enc u = (l ++ [((u % 128 + 128 : Nat) : Int)]) ++ enc (u / 128) := by rw [enc_step (by omega)]; simp
        rw [e]
        refine ih (u / 128) (by omega) _ ?_
        rw [enc_step (u := u) (by omega), List.length_cons] at hl
        simp only [List.length_append, List.length_cons, List.length_nil]
        omega
theorem Put_ev (l : List Int) {a : Int} (h0 : -9223372036854775808 ≤ a) (h1 : a ≤ 9223372036854775807) (hl : l.length + 10 ≤ 140737488355328) : Ev (fun k => num_Put.f k l a) (l ++ enc (zig a)) := by
  have hz := enc_len10 (zig_lt h0 h1)
  have key : Ev (fun k => num_Put.j0 k l ((zig a : Nat) : Int)) (l ++ enc (zig a)) := Ev.step (fun k => rfl) (Put_loop _ _ (by omega))
  refine Ev.congr (fun k => ?_) key
  unfold num_Put.f
  by_cases h : a < 0
  · rw [if_pos h, wrap_u64, wrap_u64, not_u64 (by omega) (by omega)]
    congr 1
    unfold zig
    rw [if_pos h]
    omega
  · rw [if_neg h, wrap_u64, wrap_u64]
    congr 1
    unfold zig
    rw [if_neg h]
    omega

theorem Get_loop (l : List Int) (hb : ∀ x ∈ l, 0 ≤ x ∧ x < 256) (r : List Int) : ∀ (i u : Nat), l.drop i = r → u < 2 ^ (7 * i) → i ≤ 9 → Ev (fun k => num_Get.l0 k (u : Int) l (l.length : Int) (i : Int)) (numGet i u r) := by
  induction r with
  | nil =>
    intro i u hd hu hi
    have hge : l.length ≤ i := by simpa using List.drop_eq_nil_iff.1 hd
    refine Ev.step (f := fun _ => some (0, 0, 2)) (fun k => ?_) (Ev.now _)
    simp only [num_Get.l0]
    rw [if_neg (by omega)]
  | cons c r ih =>
    intro i u hd hu hi
    obtain ⟨hrd, hlt, hd'⟩ := rd_cons l i c r hd
    have hc : 0 ≤ c ∧ c < 256 := hb c (List.mem_of_mem_drop (by rw [hd]; exact List.mem_cons_self ..))
    have hpw : (2 : Nat) ^ (7 * i) ≤ 2 ^ 63 := Nat.pow_le_pow_right (by decide) (by omega)
    have hw : wrap64 (7 * (i : Int)) = ((7 * i : Nat) : Int) := by rw [wrap64_eq (by omega) (by omega)]; omega
    have hsmall : ¬(i = 9 ∧ c > 1) → (c % 128) * 2 ^ (7 * i) < 2 ^ 64 := by
      intro h
      have : ((c % 128).toNat) * 2 ^ (7 * i) < 2 ^ 64 := by
        rcases Nat.lt_or_ge i 9 with h9 | h9
        · have h5 : (2 : Nat) ^ (7 * i) ≤ 2 ^ 56 := Nat.pow_le_pow_right (by decide) (by omega)
          have := Nat.mul_le_mul (show (c % 128).toNat ≤ 127 by omega) h5
          omega
        · have h10 : i = 9 := by omega
          subst h10
          have := Nat.mul_le_mul (show (c % 128).toNat ≤ 1 by omega) (Nat.le_refl (2 ^ (7 * 9)))
          omega
      have ec : (((c % 128).toNat : Nat) : Int) = c % 128 := by omega
      have e : ((c % 128) * 2 ^ (7 * i) : Int) = (((c % 128).toNat * 2 ^ (7 * i) : Nat) : Int) := by
        rw [Int.natCast_mul, ec]
        simp
      rw [e]
      exact_mod_cast this
    have hacc : ¬(i = 9 ∧ c > 1) → Go.bits .or .u64 (u : Int) (shl .u64 (IntKind.u64.wrap (Go.bits .and .u8 c 127)) (wrap64 (7 * (i : Int)))) = ((u + (c % 128).toNat * 2 ^ (7 * i) : Nat) : Int) := by
      intro h
      rw [and127 hc.1 hc.2, wrap_u64, show c % 128 % 18446744073709551616 = c % 128 by omega, hw, or_join (7 * i) (by omega) (by exact_mod_cast hu) (by omega) (by omega) (hsmall h)]
      have ec : (((c % 128).toNat : Nat) : Int) = c % 128 := by omega
      rw [Int.natCast_add, Int.natCast_mul, ec]
      simp
    have hlim : ¬(i = 9 ∧ c > 1) → u + (c % 128).toNat * 2 ^ (7 * i) < 18446744073709551616 := by
      intro h
      rcases Nat.lt_or_ge i 9 with h9 | h9
      · have h5 : (2 : Nat) ^ (7 * i) ≤ 2 ^ 56 := Nat.pow_le_pow_right (by decide) (by omega)
        have := Nat.mul_le_mul (show (c % 128).toNat ≤ 127 by omega) h5
        omega
      · have h10 : i = 9 := by omega
        subst h10
        have := Nat.mul_le_mul (show (c % 128).toNat ≤ 1 by omega) (Nat.le_refl (2 ^ (7 * 9)))
        omega
    refine Ev.step (f := fun k => num_Get.j1 k (u : Int) (i : Int) c l (l.length : Int) (i : Int) (decide (i = 9 ∧ c > 1))) (fun k => ?_) ?_
    · simp only [num_Get.l0]
      rw [if_pos (by omega), if_pos (by omega), if_pos (by omega), hrd]
      by_cases h9 : i = 9
      · rw [if_pos (by omega)]
        congr 1
        simp [h9]
      · rw [if_neg (by omega)]
        congr 1
        simp [h9]
    · rw [numGet]
      by_cases h1 : i = 9 ∧ c > 1
      · rw [if_pos h1]
        refine Ev.step (f := fun _ => some (0, 0, 1)) (fun k => ?_) (Ev.now _)
        simp only [num_Get.j1]
        rw [if_pos (by simpa using h1)]
      · rw [if_neg h1]
        have hacc' := hacc h1
        have hlim' := hlim h1
        by_cases h2 : c > 127
        · rw [if_pos h2]
          have e2 : 2 ^ (7 * (i + 1)) = 128 * 2 ^ (7 * i) := by rw [Nat.mul_add, Nat.pow_add, Nat.mul_comm]
          have hu' : u + (c % 128).toNat * 2 ^ (7 * i) < 2 ^ (7 * (i + 1)) := by
            rw [e2]
            have : (c % 128).toNat * 2 ^ (7 * i) ≤ 127 * 2 ^ (7 * i) := Nat.mul_le_mul_right _ (by omega)
            omega
          refine Ev.step (f := fun k => num_Get.l0 k ((u + (c % 128).toNat * 2 ^ (7 * i) : Nat) : Int) l (l.length : Int) ((i + 1 : Nat) : Int)) (fun k => ?_) (ih (i + 1) _ hd' hu' (by omega))
          simp only [num_Get.j1]
          rw [if_neg (by simpa using h1), if_pos (by rw [hw]; omega), if_pos h2, hacc', wrap64_eq (by omega) (by omega)]
          rfl
        · rw [if_neg h2]
          have hcm : (c % 128).toNat = c.toNat := by omega
          rw [hcm] at hacc' hlim'
          have fin : Ev (fun k => num_Get.j2 k ((u + c.toNat * 2 ^ (7 * i) : Nat) : Int) (i : Int) (decide (0 < i ∧ c = 0))) (if 0 < i ∧ c = 0 then (0, 0, 1) else (zag (u + c.toNat * 2 ^ (7 * i)), (i : Int) + 1, 0)) := by
            by_cases h3 : 0 < i ∧ c = 0
            · rw [if_pos h3]
              refine Ev.step (f := fun _ => some (0, 0, 1)) (fun k => ?_) (Ev.now _)
              simp only [num_Get.j2]
              rw [if_pos (by simpa using h3)]
            · rw [if_neg h3]
              refine Ev.step (f := fun _ => some (zag (u + c.toNat * 2 ^ (7 * i)), (i : Int) + 1, 0)) (fun k => ?_) (Ev.now _)
              simp only [num_Get.j2]
              rw [if_neg (by simpa using h3), and1_u64 (by omega) (by omega), wrap64_eq (n := (i : Int) + 1) (by omega) (by omega)]
              generalize u + c.toNat * 2 ^ (7 * i) = m at hlim'
              unfold zag
              by_cases h4 : m % 2 = 1
              · rw [if_pos (by omega), if_pos h4, wrap64_eq (by omega) (by omega), not_i64 (by omega) (by omega)]
                congr 3
              · rw [if_neg (by omega), if_neg h4, wrap64_eq (by omega) (by omega)]
                congr 3
          refine Ev.step (fun k => ?_) fin
          simp only [num_Get.j1]
          rw [if_neg (by simpa using h1), if_pos (by rw [hw]; omega), if_neg h2, hacc']
          by_cases h3 : 0 < i
          · rw [if_pos (by omega)]
            congr 1
            simp [h3, Bool.beq_eq_decide_eq]
          · rw [if_neg (by omega)]
            congr 1
            simp [h3]
theorem Get_ev (l : List Int) (hb : ∀ x ∈ l, 0 ≤ x ∧ x < 256) : Ev (fun k => num_Get.f k l) (numGet 0 0 l) :=
  Get_loop l hb l 0 0 rfl (by simp) (by omega)

theorem begun_ev : Ev (fun k => donatuslaw1_begun.f k) true := Ev.of (fun k => donatuslaw1_begun.mono k) (k := 20) (by decide +kernel)
theorem NumOrder : donatuslaw1_NumOrder.Pure := by
  intro a b ha hb
  have ha := i64_bd ha
  have hb := i64_bd hb
  refine Ev.rounds (r := true) ?_
  unfold donatuslaw1_NumOrder.f
  refine Ev.bind begun_ev ?_
  simp only [if_true]
  have key : Ev (fun k => donatuslaw1_NumOrder.j0 k a b (decide (a < 0 ∨ b < a))) true := by
    by_cases h : a < 0 ∨ b < a
    · refine Ev.step (f := fun _ => some true) (fun k => ?_) (Ev.now _)
      simp only [donatuslaw1_NumOrder.j0]
      rw [if_pos (by simpa using h)]
    · have hz1 : zig a ≤ zig b := by unfold zig; split <;> split <;> omega
      have hz2 : zig (-a) ≤ zig (-b) := by unfold zig; split <;> split <;> omega
      refine Ev.step (fun k => by simp only [donatuslaw1_NumOrder.j0]; rw [if_neg (by simpa using h), wrap64_eq (n := -a) (by omega) (by omega), wrap64_eq (n := -b) (by omega) (by omega)]) ?_
      refine Ev.bind (Put_ev [] ha.1 ha.2 (by simp)) (Ev.bind (Put_ev [] hb.1 hb.2 (by simp)) ?_)
      simp only [List.nil_append]
      have e1 := enc_mono hz1
      have e2 := enc_mono hz2
      refine Ev.congr (fun k => if_pos (by omega)) ?_
      refine Ev.bind (Put_ev [] (a := -a) (by omega) (by omega) (by simp)) (Ev.bind (Put_ev [] (a := -b) (by omega) (by omega) (by simp)) ?_)
      simp only [List.nil_append]
      have : decide (((enc (zig (-a))).length : Int) ≤ ((enc (zig (-b))).length : Int)) = true := by simp; exact e2
      rw [this]
      exact Ev.now _
  refine Ev.congr (fun k => ?_) key
  by_cases h : a < 0
  · rw [if_pos h]
    simp [h]
  · rw [if_neg h]
    simp [h]

end Go.Proofs.Ytjnhlbelpflobaa.Pure
