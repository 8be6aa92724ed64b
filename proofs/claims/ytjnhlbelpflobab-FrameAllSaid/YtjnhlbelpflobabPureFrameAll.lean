/- FrameAll: frames one behind the other, and behind them any bytes: the program tells all of them, in their order, and goes on behind them just if what stands there begins with a frame. -/
import Derived.Test.YtjnhlbelpflobabPFrameAllx6
import Derived.Test.YtjnhlbelpflobabFrame
namespace Go.Proofs.Ytjnhlbelpflobab.Pure
open Go.RowKit Go.Proofs.Ytjnhlbelpflobab.PFrameAll Go.Proofs.YtjnhlbelpflobabW.PrintWords Go.Proofs.YtjnhlbelpflobabW.PrintLast Go.Proofs.YtjnhlbelpflobabW.PrintMore Go.Proofs.Ytjnhlbelpflobab.Spec

theorem Put_loop (u : Nat) : ∀ (l : List Int), l.length + (enc u).length ≤ 140737488355328 → Ev (fun k => num_Put.l0 k l (u : Int)) (l ++ enc u) := by
  induction u using Nat.strongRecOn with
  | _ u ih =>
    intro l hl
    have hp := enc_pos u
    by_cases h : u < 128
    · refine Ev.step (f := fun _ => some (l ++ enc u)) (fun k => ?_) (Ev.now _)
      simp only [num_Put.l0]
      rw [if_neg (by omega), if_pos (by omega), enc_small h, show (u : Int) % 256 = (u : Int) from by omega]
    · refine Ev.step (f := fun k => num_Put.l0 k (l ++ [((u % 128 + 128 : Nat) : Int)]) ((u / 128 : Nat) : Int)) (fun k => ?_) ?_
      · simp only [num_Put.l0]
        rw [if_pos (by omega), if_pos (by omega), or128 (by omega) (by omega)]
        congr 2
        · congr 1
          omega
      · have e : l ++ enc u = (l ++ [((u % 128 + 128 : Nat) : Int)]) ++ enc (u / 128) := by rw [enc_step (by omega)]; simp
        rw [e]
        refine ih (u / 128) (by omega) _ ?_
        rw [enc_step (u := u) (by omega), List.length_cons] at hl
        simp only [List.length_append, List.length_cons, List.length_nil]
        omega
theorem Put_ev (l : List Int) {a : Int} (h0 : -9223372036854775808 ≤ a) (h1 : a ≤ 9223372036854775807) (hl : l.length + 10 ≤ 140737488355328) : Ev (fun k => num_Put.f k l a) (l ++ enc (zig a)) := by
  have hz := enc_len10 (zig_lt h0 h1)
  have key : Ev (fun k => num_Put.j0 k l ((zig a : Nat) : Int)) (l ++ enc (zig a)) := Ev.step (fun k => rfl) (Put_loop _ _ (by omega))
  refine Ev.congr (fun k => ?_) key
  unfold num_Put.f
  by_cases h : a < 0
  · rw [if_pos h, wrap_u64, wrap_u64, not_u64 (by omega) (by omega)]
    congr 1
    unfold zig
    rw [if_pos h]
    omega
  · rw [if_neg h, wrap_u64, wrap_u64]
    congr 1
    unfold zig
    rw [if_neg h]
    omega

theorem Get_loop (l : List Int) (hb : ∀ x ∈ l, 0 ≤ x ∧ x < 256) (r : List Int) : ∀ (i u : Nat), l.drop i = r → u < 2 ^ (7 * i) → i ≤ 9 → Ev (fun k => num_Get.l0 k (u : Int) l (l.length : Int) (i : Int)) (numGet i u r) := by
  induction r with
  | nil =>
    intro i u hd hu hi
    have hge : l.length ≤ i := by simpa using List.drop_eq_nil_iff.1 hd
    refine Ev.step (f := fun _ => some (0, 0, 2)) (fun k => ?_) (Ev.now _)
    simp only [num_Get.l0]
    rw [if_neg (by omega)]
  | cons c r ih =>
    intro i u hd hu hi
    obtain ⟨hrd, hlt, hd'⟩ := rd_cons l i c r hd
    have hc : 0 ≤ c ∧ c < 256 := hb c (List.mem_of_mem_drop (by rw [hd]; exact List.mem_cons_self ..))
    have hpw : (2 : Nat) ^ (7 * i) ≤ 2 ^ 63 := Nat.pow_le_pow_right (by decide) (by omega)
    have hw : wrap64 (7 * (i : Int)) = ((7 * i : Nat) : Int) := by rw [wrap64_eq (by omega) (by omega)]; omega
    have hsmall : ¬(i = 9 ∧ c > 1) → (c % 128) * 2 ^ (7 * i) < 2 ^ 64 := by
      intro h
      have : ((c % 128).toNat) * 2 ^ (7 * i) < 2 ^ 64 := by
        rcases Nat.lt_or_ge i 9 with h9 | h9
        · have h5 : (2 : Nat) ^ (7 * i) ≤ 2 ^ 56 := Nat.pow_le_pow_right (by decide) (by omega)
          have := Nat.mul_le_mul (show (c % 128).toNat ≤ 127 by omega) h5
          omega
        · have h10 : i = 9 := by omega
          subst h10
          have := Nat.mul_le_mul (show (c % 128).toNat ≤ 1 by omega) (Nat.le_refl (2 ^ (7 * 9)))
          omega
      have ec : (((c % 128).toNat : Nat) : Int) = c % 128 := by omega
      have e : ((c % 128) * 2 ^ (7 * i) : Int) = (((c % 128).toNat * 2 ^ (7 * i) : Nat) : Int) := by
        rw [Int.natCast_mul, ec]
        simp
      rw [e]
      exact_mod_cast this
    have hacc : ¬(i = 9 ∧ c > 1) → Go.bits .or .u64 (u : Int) (shl .u64 (IntKind.u64.wrap (Go.bits .and .u8 c 127)) (wrap64 (7 * (i : Int)))) = ((u + (c % 128).toNat * 2 ^ (7 * i) : Nat) : Int) := by
      intro h
      rw [and127 hc.1 hc.2, wrap_u64, show c % 128 % 18446744073709551616 = c % 128 by omega, hw, or_join (7 * i) (by omega) (by exact_mod_cast hu) (by omega) (by omega) (hsmall h)]
      have ec : (((c % 128).toNat : Nat) : Int) = c % 128 := by omega
      rw [Int.natCast_add, Int.natCast_mul, ec]
      simp
    have hlim : ¬(i = 9 ∧ c > 1) → u + (c % 128).toNat * 2 ^ (7 * i) < 18446744073709551616 := by
      intro h
      rcases Nat.lt_or_ge i 9 with h9 | h9
      · have h5 : (2 : Nat) ^ (7 * i) ≤ 2 ^ 56 := Nat.pow_le_pow_right (by decide) (by omega)
        have := Nat.mul_le_mul (show (c % 128).toNat ≤ 127 by omega) h5
        omega
      · have h10 : i = 9 := by omega
        subst h10
        have := Nat.mul_le_mul (show (c % 128).toNat ≤ 1 by omega) (Nat.le_refl (2 ^ (7 * 9)))
        omega
    refine Ev.step (f := fun k => num_Get.j1 k (u : Int) (i : Int) c l (l.length : Int) (i : Int) (decide (i = 9 ∧ c > 1))) (fun k => ?_) ?_
    · simp only [num_Get.l0]
      rw [if_pos (by omega), if_pos (by omega), if_pos (by omega), hrd]
      by_cases h9 : i = 9
      · rw [if_pos (by omega)]
        congr 1
        simp [h9]
      · rw [if_neg (by omega)]
        congr 1
        simp [h9]
    · rw [numGet]
      by_cases h1 : i = 9 ∧ c > 1
      · rw [if_pos h1]
        refine Ev.step (f := fun _ => some (0, 0, 1)) (fun k => ?_) (Ev.now _)
        simp only [num_Get.j1]
        rw [if_pos (by simpa using h1)]
      · rw [if_neg h1]
        have hacc' := hacc h1
        have hlim' := hlim h1
        by_cases h2 : c > 127
        · rw [if_pos h2]
          have e2 : 2 ^ (7 * (i + 1)) = 128 * 2 ^ (7 * i) := by rw [Nat.mul_add, Nat.pow_add, Nat.mul_comm]
          have hu' : u + (c % 128).toNat * 2 ^ (7 * i) < 2 ^ (7 * (i + 1)) := by
            rw [e2]
            have : (c % 128).toNat * 2 ^ (7 * i) ≤ 127 * 2 ^ (7 * i) := Nat.mul_le_mul_right _ (by omega)
            omega
          refine Ev.step (f := fun k => num_Get.l0 k ((u + (c % 128).toNat * 2 ^ (7 * i) : Nat) : Int) l (l.length : Int) ((i + 1 : Nat) : Int)) (fun k => ?_) (ih (i + 1) _ hd' hu' (by omega))
          simp only [num_Get.j1]
          rw [if_neg (by simpa using h1), if_pos (by rw [hw]; omega), if_pos h2, hacc', wrap64_eq (by omega) (by omega)]
          rfl
        · rw [if_neg h2]
          have hcm : (c % 128).toNat = c.toNat := by omega
          rw [hcm] at hacc' hlim'
          have fin : Ev (fun k => num_Get.j2 k ((u + c.toNat * 2 ^ (7 * i) : Nat) : Int) (i : Int) (decide (0 < i ∧ c = 0))) (if 0 < i ∧ c = 0 then (0, 0, 1) else (zag (u + c.toNat * 2 ^ (7 * i)), (i : Int) + 1, 0)) := by
            by_cases h3 : 0 < i ∧ c = 0
            · rw [if_pos h3]
              refine Ev.step (f := fun _ => some (0, 0, 1)) (fun k => ?_) (Ev.now _)
              simp only [num_Get.j2]
              rw [if_pos (by simpa using h3)]
            · rw [if_neg h3]
              refine Ev.step (f := fun _ => some (zag (u + c.toNat * 2 ^ (7 * i)), (i : Int) + 1, 0)) (fun k => ?_) (Ev.now _)
              simp only [num_Get.j2]
              rw [if_neg (by simpa using h3), and1_u64 (by omega) (by omega), wrap64_eq (n := (i : Int) + 1) (by omega) (by omega)]
              generalize u + c.toNat * 2 ^ (7 * i) = m at hlim'
              unfold zag
              by_cases h4 : m % 2 = 1
              · rw [if_pos (by omega), if_pos h4, wrap64_eq (by omega) (by omega), not_i64 (by omega) (by omega)]
                congr 3
              · rw [if_neg (by omega), if_neg h4, wrap64_eq (by omega) (by omega)]
                congr 3
          refine Ev.step (fun k => ?_) fin
          simp only [num_Get.j1]
          rw [if_neg (by simpa using h1), if_pos (by rw [hw]; omega), if_neg h2, hacc']
          by_cases h3 : 0 < i
          · rw [if_pos (by omega)]
            congr 1
            simp [h3, Bool.beq_eq_decide_eq]
          · rw [if_neg (by omega)]
            congr 1
            simp [h3]
theorem Get_ev (l : List Int) (hb : ∀ x ∈ l, 0 ≤ x ∧ x < 256) : Ev (fun k => num_Get.f k l) (numGet 0 0 l) :=
  Get_loop l hb l 0 0 rfl (by simp) (by omega)

theorem refGet_loop (l : List Int) (hb : ∀ x ∈ l, 0 ≤ x ∧ x < 256) (r : List Int) : ∀ (i u : Nat), l.drop i = r → u < 2 ^ (7 * i) → i ≤ 9 → Ev (fun k => donatusref1_Get.l0 k l (u : Int) ((2 ^ (7 * i) : Nat) : Int) (i : Int)) (numGet i u r) := by
  induction r with
  | nil =>
    intro i u hd hu hi
    have hge : l.length ≤ i := by simpa using List.drop_eq_nil_iff.1 hd
    refine Ev.step (f := fun _ => some (0, 0, 2)) (fun k => ?_) (Ev.now _)
    simp only [donatusref1_Get.l0]
    rw [if_neg (by omega)]
  | cons c r ih =>
    intro i u hd hu hi
    obtain ⟨hrd, hlt, hd'⟩ := rd_cons l i c r hd
    have hc : 0 ≤ c ∧ c < 256 := hb c (List.mem_of_mem_drop (by rw [hd]; exact List.mem_cons_self ..))
    have hpw : (2 : Nat) ^ (7 * i) ≤ 2 ^ 63 := Nat.pow_le_pow_right (by decide) (by omega)
    have hlim : ¬(i = 9 ∧ c > 1) → u + (c % 128).toNat * 2 ^ (7 * i) < 18446744073709551616 := by
      intro h
      rcases Nat.lt_or_ge i 9 with h9 | h9
      · have h5 : (2 : Nat) ^ (7 * i) ≤ 2 ^ 56 := Nat.pow_le_pow_right (by decide) (by omega)
        have := Nat.mul_le_mul (show (c % 128).toNat ≤ 127 by omega) h5
        omega
      · have h10 : i = 9 := by omega
        subst h10
        have := Nat.mul_le_mul (show (c % 128).toNat ≤ 1 by omega) (Nat.le_refl (2 ^ (7 * 9)))
        omega
    have hd : IntKind.u64.wrap (Int.tmod c 128) = (((c % 128).toNat : Nat) : Int) := by
      rw [Int.tmod_eq_emod_of_nonneg hc.1, wrap_u64]
      omega
    have hacc : ¬(i = 9 ∧ c > 1) → IntKind.u64.wrap ((u : Int) + IntKind.u64.wrap ((((c % 128).toNat : Nat) : Int) * ((2 ^ (7 * i) : Nat) : Int))) = ((u + (c % 128).toNat * 2 ^ (7 * i) : Nat) : Int) := by
      intro h
      have := hlim h
      rw [← Int.natCast_mul, wrap_u64, wrap_u64]
      omega
    refine Ev.step (f := fun k => donatusref1_Get.j1 k l (u : Int) ((2 ^ (7 * i) : Nat) : Int) (i : Int) (((c % 128).toNat : Nat) : Int) (decide (i = 9 ∧ c > 1 ∨ 0 < i ∧ c = 0))) (fun k => ?_) ?_
    · simp only [donatusref1_Get.l0]
      rw [if_pos (by omega), if_pos (by omega), hrd, hd]
      by_cases h9 : i = 9
      · rw [if_pos (by omega)]
        by_cases h1 : c > 1
        · rw [if_pos h1]; congr 1; simp [h9, h1]
        · rw [if_neg h1, if_pos (by omega)]; congr 1; simp [h9, h1, Bool.beq_eq_decide_eq]
      · rw [if_neg (by omega)]
        by_cases h1 : 0 < i
        · rw [if_pos (by omega)]; congr 1; simp [h9, h1, Bool.beq_eq_decide_eq]
        · rw [if_neg (by omega)]; congr 1; simp [h9, h1]
    · rw [numGet]
      have key : ¬(i = 9 ∧ c > 1 ∨ 0 < i ∧ c = 0) → Ev (fun k => donatusref1_Get.j1 k l (u : Int) ((2 ^ (7 * i) : Nat) : Int) (i : Int) (((c % 128).toNat : Nat) : Int) false) (if c > 127 then numGet (i + 1) (u + (c % 128).toNat * 2 ^ (7 * i)) r else (zag (u + c.toNat * 2 ^ (7 * i)), (i : Int) + 1, 0)) := by
        intro hn
        have h1 : ¬(i = 9 ∧ c > 1) := fun h => hn (.inl h)
        have hacc' := hacc h1
        have hlim' := hlim h1
        by_cases h2 : c > 127
        · rw [if_pos h2]
          have e2 : 2 ^ (7 * (i + 1)) = 128 * 2 ^ (7 * i) := by rw [Nat.mul_add, Nat.pow_add, Nat.mul_comm]
          have hu' : u + (c % 128).toNat * 2 ^ (7 * i) < 2 ^ (7 * (i + 1)) := by
            rw [e2]
            have : (c % 128).toNat * 2 ^ (7 * i) ≤ 127 * 2 ^ (7 * i) := Nat.mul_le_mul_right _ (by omega)
            omega
          have hi9 : i < 9 := by omega
          have h5 : (2 : Nat) ^ (7 * i) ≤ 2 ^ 56 := Nat.pow_le_pow_right (by decide) (by omega)
          refine Ev.step (fun k => ?_) (ih (i + 1) _ hd' hu' (by omega))
          simp only [donatusref1_Get.j1]
          rw [if_neg (by simp), if_pos (by omega), if_pos (by omega), hrd, if_neg (by omega), hacc', wrap64_eq (n := (i : Int) + 1) (by omega) (by omega), wrap_u64, e2]
          congr 1
          rw [Int.natCast_mul]
          omega
        · rw [if_neg h2]
          have hcm : (c % 128).toNat = c.toNat := by omega
          rw [hcm] at hacc' hlim' ⊢
          refine Ev.step (f := fun _ => some (zag (u + c.toNat * 2 ^ (7 * i)), (i : Int) + 1, 0)) (fun k => ?_) (Ev.now _)
          simp only [donatusref1_Get.j1]
          rw [if_neg (by simp), if_pos (by omega), if_pos (by omega), hrd, if_pos (by omega), hacc', wrap64_eq (n := (i : Int) + 1) (by omega) (by omega)]
          generalize u + c.toNat * 2 ^ (7 * i) = m at hlim'
          rw [Int.tmod_eq_emod_of_nonneg (by omega), Int.tdiv_eq_ediv_of_nonneg (by omega), wrap_u64]
          unfold zag
          by_cases h4 : m % 2 = 1
          · rw [if_pos (by omega), if_pos h4]
            have e : wrap64 (wrap64 (-wrap64 ((m : Int) / 2 % 18446744073709551616)) - 1) = -((m / 2 : Nat) : Int) - 1 := by
              rw [wrap64_eq (n := (m : Int) / 2 % 18446744073709551616) (by omega) (by omega), wrap64_eq (n := -((m : Int) / 2 % 18446744073709551616)) (by omega) (by omega), wrap64_eq (by omega) (by omega)]
              omega
            rw [e]
          · rw [if_neg (by omega), if_neg h4]
            have e : wrap64 ((m : Int) / 2 % 18446744073709551616) = ((m / 2 : Nat) : Int) := by
              rw [wrap64_eq (by omega) (by omega)]
              omega
            rw [e]
      by_cases hn : i = 9 ∧ c > 1 ∨ 0 < i ∧ c = 0
      · have e : (if i = 9 ∧ c > 1 then ((0 : Int), (0 : Int), (1 : Int)) else if c > 127 then numGet (i + 1) (u + (c % 128).toNat * 2 ^ (7 * i)) r else if 0 < i ∧ c = 0 then (0, 0, 1) else (zag (u + c.toNat * 2 ^ (7 * i)), (i : Int) + 1, 0)) = (0, 0, 1) := by
          by_cases h1 : i = 9 ∧ c > 1
          · rw [if_pos h1]
          · have h2 : 0 < i ∧ c = 0 := by omega
            rw [if_neg h1, if_neg (by omega), if_pos h2]
        rw [e]
        refine Ev.step (f := fun _ => some (0, 0, 1)) (fun k => ?_) (Ev.now _)
        simp only [donatusref1_Get.j1]
        rw [if_pos (by simpa using hn)]
      · have h1 : ¬(i = 9 ∧ c > 1) := fun h => hn (.inl h)
        have h2 : ¬(0 < i ∧ c = 0) := fun h => hn (.inr h)
        rw [if_neg h1, if_neg h2]
        have e : decide (i = 9 ∧ c > 1 ∨ 0 < i ∧ c = 0) = false := decide_eq_false hn
        rw [e]
        exact key hn
theorem refGet_ev (l : List Int) (hb : ∀ x ∈ l, 0 ≤ x ∧ x < 256) : Ev (fun k => donatusref1_Get.f k l) (numGet 0 0 l) :=
  refGet_loop l hb l 0 0 rfl (by simp) (by omega)

theorem More_bits (l : List Int) (i : Int) (r : Int) (d : Nat) : ∀ (x : Nat) (j : Int), x < 4294967296 → 8 - j = d → 0 ≤ j → Ev (fun k => crc_More.l0 k ((crcSteps d x : Nat) : Int) l (l.length : Int) (wrap64 (i + 1))) r →
    Ev (fun k => crc_More.l1 k (x : Int) l (l.length : Int) i j) r := by
  induction d with
  | zero =>
    intro x j hx hd h0 h
    refine Ev.step (fun k => ?_) h
    simp only [crc_More.l1]
    rw [if_neg (by omega)]
    rfl
  | succ d ih =>
    intro x j hx hd h0 h
    refine Ev.step (fun k => ?_) (ih (crcStep x) (j + 1) (crcStep_lt hx) (by omega) (by omega) h)
    simp only [crc_More.l1]
    rw [if_pos (by omega), crc_bits hx, wrap64_eq (n := j + 1) (by omega) (by omega)]
theorem More_loop (l : List Int) (hb : Bytes l) (hl : l.length ≤ 140737488355328) (r : List Int) : ∀ (x : Nat) (i : Nat), x < 4294967296 → l.drop i = r → i ≤ l.length → Ev (fun k => crc_More.l0 k (x : Int) l (l.length : Int) (i : Int)) ((4294967295 - crcRun x r : Nat) : Int) := by
  induction r with
  | nil =>
    intro x i hx hd hi
    have hge : l.length ≤ i := by simpa using List.drop_eq_nil_iff.1 hd
    refine Ev.step (f := fun _ => some ((4294967295 - crcRun x [] : Nat) : Int)) (fun k => ?_) (Ev.now _)
    simp only [crc_More.l0]
    rw [if_neg (by omega), not_u32 (by omega) (by omega)]
    congr 1
    simp only [crcRun]
    omega
  | cons c r ih =>
    intro x i hx hd hi
    obtain ⟨hrd, hlt, hd'⟩ := rd_cons l i c r hd
    have hc : 0 ≤ c ∧ c < 256 := hb c (List.mem_of_mem_drop (by rw [hd]; exact List.mem_cons_self ..))
    have hx' : x ^^^ c.toNat < 4294967296 := xor_byte_lt hx hc.2
    have key := ih (crcSteps 8 (x ^^^ c.toNat)) (i + 1) (crcSteps_lt 8 hx') hd' (by omega)
    refine Ev.step (fun k => ?_) (More_bits l (i : Int) ((4294967295 - crcRun x (c :: r) : Nat) : Int) 8 (x ^^^ c.toNat) 0 hx' (by omega) (by omega) ?_)
    · simp only [crc_More.l0]
      rw [if_pos (by omega), if_pos (by omega), if_pos (by omega), hrd, crc_in hx hc]
    · rw [wrap64_eq (n := (i : Int) + 1) (by omega) (by omega)]
      exact key
theorem More_ev (s : Nat) (hs : s < 4294967296) (l : List Int) (hb : Bytes l) (hl : l.length ≤ 140737488355328) : Ev (fun k => crc_More.f k (s : Int) l) ((crcMore s l : Nat) : Int) := by
  have := More_loop l hb hl l (4294967295 - s) 0 (by omega) rfl (by omega)
  refine Ev.congr (fun k => ?_) this
  unfold crc_More.f
  rw [not_u32 (by omega) (by omega)]
  congr 1
  omega
theorem Sum_ev (l : List Int) (hb : Bytes l) (hl : l.length ≤ 140737488355328) : Ev (fun k => crc_Sum.f k l) ((crcMore 0 l : Nat) : Int) := by
  unfold crc_Sum.f
  exact Ev.bind (More_ev 0 (by omega) l hb hl) (Ev.now _)

theorem Four_ev (s : Nat) : num_Four.f (s : Int) = some (four s) := by
  unfold num_Four.f
  rw [four_is]
theorem Seal_ev (kind : Int) (b : List Int) (hk : -9223372036854775808 ≤ kind ∧ kind ≤ 9223372036854775807) (hb : Bytes b) (hl : b.length ≤ 140737488355328) : Ev (fun k => frame_Seal.f k kind b) (sealF kind b) := by
  have key : Ev (fun k => frame_Seal.j0 k kind b (decide (kind < 1 ∨ kind > 255 ∨ b.length > 4000))) (sealF kind b) := by
    unfold sealF
    by_cases h : kind < 1 ∨ kind > 255 ∨ b.length > 4000
    · rw [if_pos h]
      refine Ev.step (f := fun _ => some []) (fun k => ?_) (Ev.now _)
      simp only [frame_Seal.j0]
      rw [if_pos (by simpa using h)]
    · rw [if_neg h]
      refine Ev.step (fun k => by simp only [frame_Seal.j0]; rw [if_neg (by simpa using h)]) ?_
      have hh : [kind % 256] ++ enc (zig (b.length : Int)) = headF kind b.length := by
        unfold headF
        rw [show kind % 256 = kind by omega]
        rfl
      have hz := enc_len_small (n := b.length) (by omega)
      have hhl : (headF kind b.length).length ≤ 3 := by rw [headF_length]; omega
      have hhb : Bytes (headF kind b.length) := headF_bytes (by omega)
      refine Ev.bind (Put_ev [kind % 256] (a := (b.length : Int)) (by omega) (by omega) (by simp)) ?_
      rw [hh]
      refine Ev.bind (Sum_ev _ hhb (by omega)) (Ev.bind (More_ev _ (crcMore_lt _ _) b hb hl) ?_)
      rw [crcMore_append 0 _ _ (by omega) hhb]
      simp only [Four_ev, Option.bind_some]
      refine Ev.congr (fun k => by rw [if_pos (by rw [four_length]; omega), if_pos (by rw [List.length_append, four_length]; omega)]) ?_
      rw [List.append_assoc]
      exact Ev.now _
  refine Ev.congr (fun k => ?_) key
  unfold frame_Seal.f
  by_cases h : kind < 1
  · rw [if_pos h]; congr 1; simp [h]
  · rw [if_neg h]
    by_cases h2 : kind > 255
    · rw [if_pos h2]; congr 1; simp [h2]
    · rw [if_neg h2]; congr 1; simp [h, h2]; omega

theorem Open_ev (l : List Int) (hb : Bytes l) (hl : l.length ≤ 140737488355328 - 1) : Ev (fun k => frame_Open.f k l) (openF l) := by
  unfold frame_Open.f
  cases l with
  | nil => exact Ev.now _
  | cons c r =>
    have hc := hb c (List.mem_cons_self ..)
    have hbr : Bytes r := Bytes.tail hb
    have hrd : rd (c :: r) 0 = c := rfl
    have hlen : ((c :: r).length : Int) = (r.length : Int) + 1 := by simp
    refine Ev.congr (fun k => by rw [if_neg (by omega), if_pos (by omega), hrd]) ?_
    unfold openF
    simp only
    by_cases h0 : c = 0
    · simp only [if_pos h0]; exact Ev.now _
    simp only [if_neg h0]
    refine Ev.congr (fun k => if_pos (by omega)) ?_
    have hd1 : (c :: r).drop 1 = r := rfl
    rw [hd1]
    refine Ev.bind (Get_ev r hbr) ?_
    have hok := numGet_ok r hbr
    have hfail := numGet_fail r hbr
    generalize numGet 0 0 r = q at *
    obtain ⟨n, m, e⟩ := q
    simp only at *
    have key : Ev (fun k => frame_Open.j0 k (c :: r) n m e (decide (e = 2 ∧ (c :: r).length ≤ 2))) (if e = 2 ∧ (c :: r).length ≤ 2 then ((0 : Int), ([] : List Int), (0 : Int), (2 : Int)) else
        if e ≠ 0 ∨ n < 0 ∨ n > 4000 then (0, [], 0, 3) else if ((c :: r).length : Int) < 1 + m + 4 + n then (0, [], 0, 2) else
        if four (crcMore 0 ((c :: r).take (1 + m.toNat) ++ ((c :: r).drop (1 + m.toNat + 4)).take n.toNat)) = ((c :: r).drop (1 + m.toNat)).take 4 then (c, ((c :: r).drop (1 + m.toNat + 4)).take n.toNat, 1 + m + 4 + n, 0) else (0, [], 0, 3)) := by
      by_cases h1 : e = 2 ∧ (c :: r).length ≤ 2
      · rw [if_pos h1]
        refine Ev.step (f := fun _ => some (0, [], 0, 2)) (fun k => ?_) (Ev.now _)
        simp only [frame_Open.j0]
        rw [if_pos (by simpa using h1)]
      rw [if_neg h1]
      have hd : decide (e = 2 ∧ (c :: r).length ≤ 2) = false := decide_eq_false h1
      rw [hd]
      by_cases h2 : e ≠ 0 ∨ n < 0 ∨ n > 4000
      · rw [if_pos h2]
        refine Ev.step (f := fun _ => some (0, [], 0, 3)) (fun k => ?_) (Ev.now _)
        simp only [frame_Open.j0]
        rw [if_neg (by simp)]
        by_cases h3 : e = 0
        · rw [if_pos h3]
          by_cases h4 : n < 0
          · rw [if_pos h4]
          · rw [if_neg h4, if_pos (by omega)]
        · rw [if_neg h3]
      rw [if_neg h2]
      have he : e = 0 := by omega
      obtain ⟨a, rfl⟩ := Int.eq_ofNat_of_zero_le (show 0 ≤ n by omega)
      have hok' := hok he
      obtain ⟨j, rfl⟩ := Int.eq_ofNat_of_zero_le (show 0 ≤ m by omega)
      have w1 : wrap64 (1 + (j : Int)) = 1 + (j : Int) := wrap64_eq (by omega) (by omega)
      have w2 : wrap64 (1 + (j : Int) + 4) = 1 + (j : Int) + 4 := wrap64_eq (by omega) (by omega)
      have w3 : wrap64 (1 + (j : Int) + 4 + (a : Int)) = 1 + (j : Int) + 4 + (a : Int) := wrap64_eq (by omega) (by omega)
      by_cases h5 : ((c :: r).length : Int) < 1 + (j : Int) + 4 + (a : Int)
      · rw [if_pos h5]
        refine Ev.step (f := fun _ => some (0, [], 0, 2)) (fun k => ?_) (Ev.now _)
        simp only [frame_Open.j0]
        rw [if_neg (by simp), if_pos he, if_neg (by omega), if_neg (by omega), w1, w2, w3, if_pos h5]
      rw [if_neg h5]
      refine Ev.step (fun k => by simp only [frame_Open.j0]; rw [if_neg (by simp), if_pos he, if_neg (by omega), if_neg (by omega), w1, w2, w3, if_neg h5, if_pos (by omega), if_pos (by omega), if_pos (by omega), if_pos (by omega), if_pos (by omega)]) ?_
      have t1 : (1 + (j : Int)).toNat = 1 + j := by omega
      have t2 : (1 + (j : Int) + 4).toNat = 1 + j + 4 := by omega
      have t3 : (1 + (j : Int) + 4 + (a : Int)).toNat = 1 + j + 4 + a := by omega
      rw [t1, t2, t3]
      have p1 : ((c :: r).take (1 + j + 4 + a)).drop (1 + j + 4) = ((c :: r).drop (1 + j + 4)).take a := by rw [List.drop_take]; congr 1; omega
      have p2 : ((c :: r).take (1 + j + 4)).drop (1 + j) = ((c :: r).drop (1 + j)).take 4 := by rw [List.drop_take]; congr 1; omega
      rw [p1, p2]
      refine Ev.bind (Sum_ev _ (hb.take _) (Nat.le_trans (List.length_take_le ..) (by omega))) (Ev.bind (More_ev _ (crcMore_lt _ _) _ ((hb.drop _).take _) ?_) ?_)
      · exact Nat.le_trans (List.length_take_le ..) (by omega)
      rw [crcMore_append 0 _ _ (by omega) (hb.take _)]
      simp only [Four_ev, Option.bind_some, Int.toNat_natCast]
      refine Ev.congr (fun k => by rw [if_pos (by omega), if_pos (by omega)]) ?_
      by_cases h6 : four (crcMore 0 ((c :: r).take (1 + j) ++ ((c :: r).drop (1 + j + 4)).take a)) = ((c :: r).drop (1 + j)).take 4
      · rw [if_pos h6]
        have hcl : (((c :: r).drop (1 + j + 4)).take a).length ≤ a := List.length_take_le ..
        refine Ev.congr (fun k => by rw [if_pos (by rw [h6]), if_pos (by omega), if_pos (by simp only [List.length_nil]; omega), hrd, wrap64_eq (n := c) (by omega) (by omega), List.nil_append]) (Ev.now _)
      · rw [if_neg h6]
        refine Ev.congr (fun k => if_neg (fun h7 => h6 (strOfNums_inj (four_bytes _) ((hb.drop _).take _) h7))) (Ev.now _)
    refine Ev.congr (fun k => ?_) key
    by_cases h1 : e = 2
    · rw [if_pos h1]; congr 1; simp [h1]; omega
    · rw [if_neg h1]; congr 1; simp [h1]

theorem refPut_loop (u : Nat) : ∀ (l : List Int), u < 18446744073709551616 → l.length + (enc u).length ≤ 140737488355328 → Ev (fun k => donatusref1_Put.l0 k (u : Int) l) (l ++ enc u) := by
  induction u using Nat.strongRecOn with
  | _ u ih =>
    intro l hu hl
    have hp := enc_pos u
    by_cases h : u < 128
    · refine Ev.step (f := fun _ => some (l ++ enc u)) (fun k => ?_) (Ev.now _)
      simp only [donatusref1_Put.l0]
      rw [if_neg (by omega), if_pos (by omega), enc_small h, show (u : Int) % 256 = (u : Int) from by omega]
    · refine Ev.step (f := fun k => donatusref1_Put.l0 k ((u / 128 : Nat) : Int) (l ++ [((u % 128 + 128 : Nat) : Int)])) (fun k => ?_) ?_
      · simp only [donatusref1_Put.l0]
        rw [if_pos (by omega), if_pos (by omega), Int.tmod_eq_emod_of_nonneg (by omega), Int.tdiv_eq_ediv_of_nonneg (by omega), wrap_u64, wrap_u64]
        have e1 : (u : Int) / 128 % 18446744073709551616 = ((u / 128 : Nat) : Int) := by omega
        have e2 : ((u : Int) % 128 + 128) % 18446744073709551616 % 256 = ((u % 128 + 128 : Nat) : Int) := by omega
        rw [e1, e2]
      · have e : l ++ enc u = (l ++ [((u % 128 + 128 : Nat) : Int)]) ++ enc (u / 128) := by rw [enc_step (by omega)]; simp
        rw [e]
        refine ih (u / 128) (by omega) _ (by omega) ?_
        rw [enc_step (u := u) (by omega), List.length_cons] at hl
        simp only [List.length_append, List.length_cons, List.length_nil]
        omega
theorem refPut_ev {a : Int} (h0 : -9223372036854775808 ≤ a) (h1 : a ≤ 9223372036854775807) : Ev (fun k => donatusref1_Put.f k a) (enc (zig a)) := by
  have hz := enc_len10 (zig_lt h0 h1)
  have key : Ev (fun k => donatusref1_Put.j0 k ((zig a : Nat) : Int)) ([] ++ enc (zig a)) := Ev.step (fun k => rfl) (refPut_loop _ [] (zig_lt h0 h1) (by simp only [List.length_nil]; omega))
  rw [List.nil_append] at key
  refine Ev.congr (fun k => ?_) key
  unfold donatusref1_Put.f
  by_cases h : a < 0
  · rw [if_pos h, wrap_u64, wrap_u64, not_u64 (by omega) (by omega)]
    congr 1
    unfold zig
    rw [if_pos h]
    omega
  · rw [if_neg h, wrap_u64, wrap_u64]
    congr 1
    unfold zig
    rw [if_neg h]
    omega

theorem refSum_bits (l : List Int) (i : Int) (r : Int) (d : Nat) : ∀ (x : Nat) (j : Int), x < 4294967296 → 8 - j = d → 0 ≤ j → Ev (fun k => donatusref1_Sum.l0 k l ((crcSteps d x : Nat) : Int) (wrap64 (i + 1))) r →
    Ev (fun k => donatusref1_Sum.l1 k l (x : Int) i j) r := by
  induction d with
  | zero =>
    intro x j hx hd h0 h
    refine Ev.step (fun k => ?_) h
    simp only [donatusref1_Sum.l1]
    rw [if_neg (by omega)]
    rfl
  | succ d ih =>
    intro x j hx hd h0 h
    refine Ev.step (fun k => ?_) (ih (crcStep x) (j + 1) (crcStep_lt hx) (by omega) (by omega) h)
    simp only [donatusref1_Sum.l1]
    rw [if_pos (by omega), wrap64_eq (n := j + 1) (by omega) (by omega), Int.tmod_eq_emod_of_nonneg (by omega)]
    unfold crcStep
    by_cases h2 : x % 2 = 1
    · rw [if_pos (by omega), if_pos h2, xor_u32 (by omega) (by omega) (by omega) (by omega)]
      congr 3
    · rw [if_neg (by omega), if_neg h2, Nat.xor_zero]
      congr 1
theorem refSum_loop (l : List Int) (hb : Bytes l) (hl : l.length ≤ 140737488355328) (r : List Int) : ∀ (x : Nat) (i : Nat), x < 4294967296 → l.drop i = r → i ≤ l.length → Ev (fun k => donatusref1_Sum.l0 k l (x : Int) (i : Int)) ((4294967295 - crcRun x r : Nat) : Int) := by
  induction r with
  | nil =>
    intro x i hx hd hi
    have hge : l.length ≤ i := by simpa using List.drop_eq_nil_iff.1 hd
    refine Ev.step (f := fun _ => some ((4294967295 - crcRun x [] : Nat) : Int)) (fun k => ?_) (Ev.now _)
    simp only [donatusref1_Sum.l0]
    rw [if_neg (by omega), not_u32 (by omega) (by omega)]
    congr 1
    simp only [crcRun]
    omega
  | cons c r ih =>
    intro x i hx hd hi
    obtain ⟨hrd, hlt, hd'⟩ := rd_cons l i c r hd
    have hc : 0 ≤ c ∧ c < 256 := hb c (List.mem_of_mem_drop (by rw [hd]; exact List.mem_cons_self ..))
    have hx' : x ^^^ c.toNat < 4294967296 := xor_byte_lt hx hc.2
    have key := ih (crcSteps 8 (x ^^^ c.toNat)) (i + 1) (crcSteps_lt 8 hx') hd' (by omega)
    refine Ev.step (fun k => ?_) (refSum_bits l (i : Int) ((4294967295 - crcRun x (c :: r) : Nat) : Int) 8 (x ^^^ c.toNat) 0 hx' (by omega) (by omega) ?_)
    · simp only [donatusref1_Sum.l0]
      rw [if_pos (by omega), if_pos (by omega), hrd, crc_in hx hc]
    · rw [wrap64_eq (n := (i : Int) + 1) (by omega) (by omega)]
      exact key
theorem refSum_ev (l : List Int) (hb : Bytes l) (hl : l.length ≤ 140737488355328) : Ev (fun k => donatusref1_Sum.f k l) ((crcMore 0 l : Nat) : Int) :=
  refSum_loop l hb hl l 4294967295 0 (by decide) rfl (by omega)

theorem refSeal_ev (kind : Int) (b : List Int) (_hk : -9223372036854775808 ≤ kind ∧ kind ≤ 9223372036854775807) (hb : Bytes b) (_hl : b.length ≤ 140737488355328) : Ev (fun k => donatusref1_Seal.f k kind b) (sealF kind b) := by
  have key : Ev (fun k => donatusref1_Seal.j0 k kind b (decide (kind < 1 ∨ kind > 255 ∨ b.length > 4000))) (sealF kind b) := by
    unfold sealF
    by_cases h : kind < 1 ∨ kind > 255 ∨ b.length > 4000
    · rw [if_pos h]
      refine Ev.step (f := fun _ => some []) (fun k => ?_) (Ev.now _)
      simp only [donatusref1_Seal.j0]
      rw [if_pos (by simpa using h)]
    · rw [if_neg h]
      refine Ev.step (fun k => by simp only [donatusref1_Seal.j0]; rw [if_neg (by simpa using h)]) ?_
      have hh : [kind % 256] ++ enc (zig (b.length : Int)) = headF kind b.length := by
        unfold headF
        rw [show kind % 256 = kind by omega]
        rfl
      have hz := enc_len_small (n := b.length) (by omega)
      have hhl : (headF kind b.length).length ≤ 3 := by rw [headF_length]; omega
      have hhb : Bytes (headF kind b.length) := headF_bytes (by omega)
      simp only [Option.bind_some]
      refine Ev.bind (refPut_ev (a := (b.length : Int)) (by omega) (by omega)) ?_
      refine Ev.congr (fun k => by rw [if_pos (by simp only [List.length_cons, List.length_nil]; omega), hh, if_pos (by simp only [List.length_nil]; omega), List.nil_append, if_pos (by omega)]) ?_
      refine Ev.bind (refSum_ev _ (hhb.append hb) (by rw [List.length_append]; omega)) ?_
      rw [four_is]
      refine Ev.congr (fun k => by rw [if_pos (by rw [four_length]; omega), if_pos (by rw [List.length_append, four_length]; omega)]) ?_
      rw [List.append_assoc]
      exact Ev.now _
  refine Ev.congr (fun k => ?_) key
  unfold donatusref1_Seal.f
  by_cases h : kind < 1
  · rw [if_pos h]; congr 1; simp [h]
  · rw [if_neg h]
    by_cases h2 : kind > 255
    · rw [if_pos h2]; congr 1; simp [h2]
    · rw [if_neg h2]; congr 1; simp [h, h2]; omega

theorem refOpen_ev (l : List Int) (hb : Bytes l) (hl : l.length ≤ 140737488355328 - 1) : Ev (fun k => donatusref1_Open.f k l) (openF l) := by
  unfold donatusref1_Open.f
  cases l with
  | nil => exact Ev.now _
  | cons c r =>
    have hc := hb c (List.mem_cons_self ..)
    have hbr : Bytes r := Bytes.tail hb
    have hrd : rd (c :: r) 0 = c := rfl
    have hlen : ((c :: r).length : Int) = (r.length : Int) + 1 := by simp
    refine Ev.congr (fun k => by rw [if_neg (by omega), if_pos (by omega), hrd]) ?_
    unfold openF
    simp only
    by_cases h0 : c = 0
    · simp only [if_pos h0]; exact Ev.now _
    simp only [if_neg h0]
    refine Ev.congr (fun k => if_pos (by omega)) ?_
    have hd1 : (c :: r).drop 1 = r := rfl
    rw [hd1]
    refine Ev.bind (refGet_ev r hbr) ?_
    have hok := numGet_ok r hbr
    have hfail := numGet_fail r hbr
    have hcan := numGet_canon0 hbr
    generalize numGet 0 0 r = q at *
    obtain ⟨n, m, e⟩ := q
    simp only at *
    have key : Ev (fun k => donatusref1_Open.j0 k (c :: r) n m e (decide (e = 2 ∧ (c :: r).length > 2))) (if e = 2 ∧ (c :: r).length ≤ 2 then ((0 : Int), ([] : List Int), (0 : Int), (2 : Int)) else
        if e ≠ 0 ∨ n < 0 ∨ n > 4000 then (0, [], 0, 3) else if ((c :: r).length : Int) < 1 + m + 4 + n then (0, [], 0, 2) else
        if four (crcMore 0 ((c :: r).take (1 + m.toNat) ++ ((c :: r).drop (1 + m.toNat + 4)).take n.toNat)) = ((c :: r).drop (1 + m.toNat)).take 4 then (c, ((c :: r).drop (1 + m.toNat + 4)).take n.toNat, 1 + m + 4 + n, 0) else (0, [], 0, 3)) := by
      by_cases h1 : e = 2 ∧ (c :: r).length > 2
      · rw [if_neg (by omega), if_pos (by omega)]
        refine Ev.step (f := fun _ => some (0, [], 0, 3)) (fun k => ?_) (Ev.now _)
        simp only [donatusref1_Open.j0]
        rw [if_pos (by simpa using h1)]
      have hd : decide (e = 2 ∧ (c :: r).length > 2) = false := decide_eq_false h1
      rw [hd]
      by_cases h1' : e = 2 ∧ (c :: r).length ≤ 2
      · rw [if_pos h1']
        refine Ev.step (f := fun _ => some (0, [], 0, 2)) (fun k => ?_) (Ev.now _)
        simp only [donatusref1_Open.j0]
        rw [if_neg (by simp), if_pos h1'.1, h1'.1]
      rw [if_neg h1']
      have hne : e ≠ 2 := by omega
      by_cases h2 : e ≠ 0 ∨ n < 0 ∨ n > 4000
      · rw [if_pos h2]
        refine Ev.step (f := fun k => donatusref1_Open.j1 k (c :: r) n m true) (fun k => ?_) (Ev.step (f := fun _ => some (0, [], 0, 3)) (fun k => ?_) (Ev.now _))
        · simp only [donatusref1_Open.j0]
          rw [if_neg (by simp), if_neg hne]
          by_cases h3 : e = 0
          · rw [if_pos h3]
            by_cases h4 : n < 0
            · rw [if_pos h4]
            · rw [if_neg h4]
              congr 1
              simp
              omega
          · rw [if_neg h3]
        · simp only [donatusref1_Open.j1]
          exact if_pos trivial
      rw [if_neg h2]
      have he : e = 0 := by omega
      obtain ⟨a, rfl⟩ := Int.eq_ofNat_of_zero_le (show 0 ≤ n by omega)
      have hok' := hok he
      have hcan' := hcan he
      obtain ⟨j, rfl⟩ := Int.eq_ofNat_of_zero_le (show 0 ≤ m by omega)
      simp only [Int.toNat_natCast] at hcan' ⊢
      have w1 : wrap64 (1 + (j : Int)) = 1 + (j : Int) := wrap64_eq (by omega) (by omega)
      have w2 : wrap64 (1 + (j : Int) + 4) = 1 + (j : Int) + 4 := wrap64_eq (by omega) (by omega)
      have w3 : wrap64 (1 + (j : Int) + 4 + (a : Int)) = 1 + (j : Int) + 4 + (a : Int) := wrap64_eq (by omega) (by omega)
      refine Ev.step (f := fun k => donatusref1_Open.j1 k (c :: r) (a : Int) (j : Int) false) (fun k => ?_) ?_
      · simp only [donatusref1_Open.j0]
        rw [if_neg (by simp), if_neg hne, if_pos he, if_neg (by omega)]
        congr 1
        simp
        omega
      by_cases h5 : ((c :: r).length : Int) < 1 + (j : Int) + 4 + (a : Int)
      · rw [if_pos h5]
        refine Ev.step (f := fun _ => some (0, [], 0, 2)) (fun k => ?_) (Ev.now _)
        simp only [donatusref1_Open.j1]
        rw [if_neg (by simp), w1, w2, w3, if_pos h5]
      rw [if_neg h5]
      refine Ev.step (fun k => by simp only [donatusref1_Open.j1]; rw [if_neg (by simp), w1, w2, w3, if_neg h5, if_pos (by omega), if_pos (by omega), if_pos (by omega), Option.bind_some, if_pos (by omega), hrd, wrap64_eq (n := c) (by omega) (by omega)]) ?_
      have t2 : (1 + (j : Int) + 4).toNat = 1 + j + 4 := by omega
      have t3 : (1 + (j : Int) + 4 + (a : Int)).toNat = 1 + j + 4 + a := by omega
      rw [t2, t3]
      have p1 : ((c :: r).take (1 + j + 4 + a)).drop (1 + j + 4) = ((c :: r).drop (1 + j + 4)).take a := by rw [List.drop_take]; congr 1; omega
      rw [p1]
      have hbl : (((c :: r).drop (1 + j + 4)).take a).length = a := by rw [List.length_take, List.length_drop]; omega
      have hbb : Bytes (((c :: r).drop (1 + j + 4)).take a) := (hb.drop _).take _
      refine Ev.bind (refSeal_ev c _ (by omega) hbb (by omega)) ?_
      have hseal : sealF c (((c :: r).drop (1 + j + 4)).take a) = frameF c (((c :: r).drop (1 + j + 4)).take a) := by unfold sealF; rw [if_neg (by omega)]
      rw [hseal]
      refine Ev.congr (fun k => if_pos (by omega)) ?_
      have hhead : headF c a = (c :: r).take (1 + j) := by unfold headF; rw [Nat.add_comm, List.take_succ_cons, hcan']
      have p3 : (c :: r).take (1 + j + 4 + a) = (c :: r).take (1 + j) ++ (((c :: r).drop (1 + j)).take 4 ++ ((c :: r).drop (1 + j + 4)).take a) := by
        rw [Nat.add_assoc (1 + j), List.take_add (i := 1 + j) (j := 4 + a), List.take_add (i := 4) (j := a), List.drop_drop]
      have hiff : frameF c (((c :: r).drop (1 + j + 4)).take a) = (c :: r).take (1 + j + 4 + a) ↔ four (crcMore 0 ((c :: r).take (1 + j) ++ ((c :: r).drop (1 + j + 4)).take a)) = ((c :: r).drop (1 + j)).take 4 := by
        unfold frameF
        rw [hbl, hhead, p3]
        constructor
        · intro h
          have h7 := List.append_cancel_left h
          exact (List.append_inj h7 (by rw [four_length, List.length_take, List.length_drop]; omega)).1
        · intro h; rw [h]
      by_cases h6 : four (crcMore 0 ((c :: r).take (1 + j) ++ ((c :: r).drop (1 + j + 4)).take a)) = ((c :: r).drop (1 + j)).take 4
      · rw [if_pos h6]
        refine Ev.congr (fun k => if_pos (by rw [hiff.2 h6])) (Ev.now _)
      · rw [if_neg h6]
        refine Ev.congr (fun k => if_neg (fun h7 => h6 (hiff.1 (strOfNums_inj (frameF_bytes (by omega) hbb) (hb.take _) h7)))) (Ev.now _)
    refine Ev.congr (fun k => ?_) key
    by_cases h1 : e = 2
    · rw [if_pos h1]; congr 1; simp [h1]; omega
    · rw [if_neg h1]; congr 1; simp [h1]

theorem Short_is (l : List Int) (n : Nat) (_hn : n ≤ 1000) : donatuslaw1_Short.f l (n : Int) = some (l.take n) := by
  unfold donatuslaw1_Short.f
  by_cases h : (l.length : Int) > (n : Int)
  · rw [if_pos h, if_pos (by omega), if_pos (by omega)]; rfl
  · rw [if_neg h, List.take_of_length_le (by omega)]

theorem begun_ev : Ev (fun k => donatuslaw16_begun.f k) true := Ev.of (fun k => donatuslaw16_begun.mono k) (k := 60) (by decide +kernel)
/-- A run over frames, up to where they end. -/
theorem All_then (l rest : List Int) (hl : l.length ≤ 4000000000) (hr : Bytes rest) (fs : List (Int × List Int)) :
    ∀ (pre : List Int) (acc : List S38) (q : List S38 × Int), l = pre ++ (flat fs ++ rest) → Bytes pre → (∀ f ∈ fs, Valid f) → acc.length + fs.length ≤ 4000000000 →
      Ev (fun k => frame_All.l0 k l (acc ++ fs.map (fun f => (⟨f.1, f.2⟩ : S38))) ((pre ++ flat fs).length : Int)) q → Ev (fun k => frame_All.l0 k l acc (pre.length : Int)) q := by
  induction fs with
  | nil =>
    intro pre acc q _ _ _ _ h
    rw [List.map_nil, List.append_nil, flat_nil, List.append_nil] at h
    exact h
  | cons f fs ih =>
    intro pre acc q hl2 hp hv ha h
    have hf := hv f (List.mem_cons_self ..)
    have hf6 := frameF_pos f.1 f.2
    rw [flat_cons] at hl2 h
    have hlen : l.length = pre.length + ((frameF f.1 f.2).length + ((flat fs).length + rest.length)) := by rw [hl2, List.length_append, List.length_append, List.length_append]; omega
    have hfb : Bytes (frameF f.1 f.2) := frameF_bytes ⟨by have := hf.1; omega, by have := hf.2.1; omega⟩ hf.2.2.2
    have hfs : ∀ g ∈ fs, Valid g := fun g hg => hv g (List.mem_cons_of_mem _ hg)
    have hd : l.drop pre.length = frameF f.1 f.2 ++ (flat fs ++ rest) := by rw [hl2, List.drop_left, List.append_assoc]
    have key := ih (pre ++ frameF f.1 f.2) (acc ++ [⟨f.1, f.2⟩]) q (by rw [hl2]; simp [List.append_assoc]) (hp.append hfb) hfs (by simp only [List.length_append, List.length_cons, List.length_nil] at ha ⊢; omega) (by simpa [List.append_assoc] using h)
    refine Ev.step (fun k => by simp only [frame_All.l0]; rw [if_pos (by omega), if_pos (by omega), if_pos (by omega), Int.toNat_natCast, hd]) ?_
    refine Ev.bind (Open_ev _ (hfb.append ((flat_bytes hfs).append hr)) (by rw [List.length_append, List.length_append]; omega)) ?_
    rw [open_frame ⟨hf.1, hf.2.1⟩ hf.2.2.1]
    simp only [if_true]
    simp only [List.length_cons] at ha
    refine Ev.congr (fun k => by rw [if_pos (by omega), wrap64_eq (by omega) (by omega)]) ?_
    have e1 : (pre.length : Int) + ((frameF f.1 f.2).length : Int) = ((pre ++ frameF f.1 f.2).length : Int) := by rw [List.length_append]; omega
    rw [e1]
    exact key
/-- It ends on any bytes, and goes on. -/
theorem All_more (l : List Int) (hl : l.length ≤ 4000000000) (hb : Bytes l) : ∀ (d pos : Nat) (acc : List S38), l.length - pos ≤ d → pos ≤ l.length → acc.length + (l.length - pos) ≤ 4000000000 →
    ∃ more e, (pos : Int) ≤ e ∧ Ev (fun k => frame_All.l0 k l acc (pos : Int)) (acc ++ more, e) := by
  intro d
  induction d with
  | zero =>
    intro pos acc hd hp _
    refine ⟨[], pos, Int.le_refl _, ?_⟩
    rw [List.append_nil]
    exact Ev.step (fun k => by simp only [frame_All.l0]; rw [if_neg (by omega)]) (Ev.now _)
  | succ d ih =>
    intro pos acc hd hp ha
    by_cases h0 : pos = l.length
    · refine ⟨[], pos, Int.le_refl _, ?_⟩
      rw [List.append_nil]
      exact Ev.step (fun k => by simp only [frame_All.l0]; rw [if_neg (by omega)]) (Ev.now _)
    · have hbd : Bytes (l.drop pos) := hb.drop pos
      have hld : (l.drop pos).length = l.length - pos := List.length_drop
      have hop := Open_ev (l.drop pos) hbd (by omega)
      rcases open_iff hbd with h | h
      · obtain ⟨_, _, _, h4, h5, _⟩ := openF_frame hbd h
        have h6 := frameF_pos (openF (l.drop pos)).1 (openF (l.drop pos)).2.1
        generalize openF (l.drop pos) = q at *
        obtain ⟨more, e, he, hev⟩ := ih (pos + (frameF q.1 q.2.1).length) (acc ++ [⟨q.1, q.2.1⟩]) (by omega) (by omega) (by simp only [List.length_append, List.length_cons, List.length_nil]; omega)
        refine ⟨⟨q.1, q.2.1⟩ :: more, e, by omega, ?_⟩
        refine Ev.step (fun k => by simp only [frame_All.l0]; rw [if_pos (by omega), if_pos (by omega), if_pos (by omega), Int.toNat_natCast]) ?_
        refine Ev.bind hop ?_
        refine Ev.congr (fun k => by rw [if_pos h, if_pos (by omega), h4, wrap64_eq (by omega) (by omega)]) ?_
        have e1 : (pos : Int) + ((frameF q.1 q.2.1).length : Int) = ((pos + (frameF q.1 q.2.1).length : Nat) : Int) := by omega
        rw [e1]
        simpa [List.append_assoc] using hev
      · refine ⟨[], pos, Int.le_refl _, ?_⟩
        rw [List.append_nil]
        refine Ev.step (fun k => by simp only [frame_All.l0]; rw [if_pos (by omega), if_pos (by omega), if_pos (by omega), Int.toNat_natCast]) ?_
        refine Ev.bind hop ?_
        refine Ev.congr (fun k => if_neg ?_) (Ev.now _)
        rcases h with h | h <;> rw [h] <;> decide
/-- Frames, and behind them any bytes. -/
theorem All_tail (fs : List (Int × List Int)) (rest : List Int) (hv : ∀ f ∈ fs, Valid f) (hr : Bytes rest) (hl : (flat fs ++ rest).length ≤ 2000000000) :
    ∃ more e, Ev (fun k => frame_All.f k (flat fs ++ rest)) (fs.map (fun f => (⟨f.1, f.2⟩ : S38)) ++ more, e) ∧
      ((openF rest).2.2.2 ≠ 0 → more = [] ∧ e = ((flat fs).length : Int)) ∧ ((openF rest).2.2.2 = 0 → more ≠ [] ∧ ((flat fs).length : Int) + (openF rest).2.2.1 ≤ e) := by
  have hc : fs.length ≤ (flat fs).length := by
    clear hl
    induction fs with
    | nil => simp
    | cons f fs ih =>
      have := ih (fun g hg => hv g (List.mem_cons_of_mem _ hg))
      have h6 := frameF_pos f.1 f.2
      rw [flat_cons, List.length_append, List.length_cons]
      omega
  have hll : (flat fs ++ rest).length = (flat fs).length + rest.length := List.length_append
  have hb : Bytes (flat fs ++ rest) := (flat_bytes hv).append hr
  have go : ∀ q, Ev (fun k => frame_All.l0 k (flat fs ++ rest) (fs.map (fun f => (⟨f.1, f.2⟩ : S38))) ((flat fs).length : Int)) q → Ev (fun k => frame_All.f k (flat fs ++ rest)) q := fun q h =>
    All_then (flat fs ++ rest) rest (by omega) hr fs [] [] q rfl Bytes.nil hv (by simp only [List.length_nil]; omega) h
  have hd : (flat fs ++ rest).drop (flat fs).length = rest := List.drop_left
  by_cases h0 : rest = []
  · subst h0
    refine ⟨[], ((flat fs).length : Int), go _ ?_, fun _ => ⟨rfl, rfl⟩, fun h => absurd h (by decide)⟩
    rw [List.append_nil] at hll ⊢
    rw [List.append_nil]
    exact Ev.step (fun k => by simp only [frame_All.l0]; rw [if_neg (by omega)]) (Ev.now _)
  · have hrl : 0 < rest.length := List.length_pos_iff.2 h0
    have hop := Open_ev rest hr (by omega)
    by_cases h : (openF rest).2.2.2 = 0
    · obtain ⟨_, _, _, h4, h5, _⟩ := openF_frame hr h
      have h6 := frameF_pos (openF rest).1 (openF rest).2.1
      obtain ⟨more, e, he, hev⟩ := All_more (flat fs ++ rest) (by omega) hb _ ((flat fs).length + (frameF (openF rest).1 (openF rest).2.1).length) (fs.map (fun f => (⟨f.1, f.2⟩ : S38)) ++ [⟨(openF rest).1, (openF rest).2.1⟩]) (Nat.le_refl _) (by omega) (by simp only [List.length_append, List.length_map, List.length_cons, List.length_nil]; omega)
      refine ⟨⟨(openF rest).1, (openF rest).2.1⟩ :: more, e, go _ ?_, fun h' => absurd h h', fun _ => ⟨by simp, by omega⟩⟩
      generalize openF rest = q at *
      refine Ev.step (fun k => by simp only [frame_All.l0]; rw [if_pos (by omega), if_pos (by omega), if_pos (by omega), Int.toNat_natCast, hd]) ?_
      refine Ev.bind hop ?_
      refine Ev.congr (fun k => by rw [if_pos h, if_pos (by simp only [List.length_map]; omega), h4, wrap64_eq (by omega) (by omega)]) ?_
      have e1 : ((flat fs).length : Int) + ((frameF q.1 q.2.1).length : Int) = (((flat fs).length + (frameF q.1 q.2.1).length : Nat) : Int) := by omega
      rw [e1]
      simpa [List.append_assoc] using hev
    · refine ⟨[], ((flat fs).length : Int), go _ ?_, fun _ => ⟨rfl, rfl⟩, fun h' => absurd h' h⟩
      rw [List.append_nil]
      refine Ev.step (fun k => by simp only [frame_All.l0]; rw [if_pos (by omega), if_pos (by omega), if_pos (by omega), Int.toNat_natCast, hd]) ?_
      refine Ev.bind hop ?_
      exact Ev.congr (fun k => if_neg h) (Ev.now _)
/-- A frame's kind out of any number. -/
def kindOf (a : Int) : Int := 1 + (Int.tmod a 255 + 255) % 255
theorem kindOf_is (a : Int) : wrap64 (1 + (Int.tmod (wrap64 ((Int.tmod a 255) + 255)) 255)) = kindOf a := by
  have h1 : Int.tmod a 255 < 255 := Int.tmod_lt_of_pos a (by omega)
  have h2 : -255 < Int.tmod a 255 := Int.lt_tmod_of_pos a (by omega)
  rw [wrap64_eq (n := Int.tmod a 255 + 255) (by omega) (by omega), Int.tmod_eq_emod_of_nonneg (by omega)]
  unfold kindOf
  exact wrap64_eq (by omega) (by omega)
theorem kindOf_bd (a : Int) : 1 ≤ kindOf a ∧ kindOf a ≤ 255 := by unfold kindOf; omega
def framesOf (x0 : List (List Int)) (x1 : List Int) (n : Nat) : List (Int × List Int) := (List.range n).map fun (i : Nat) => (kindOf (rd x1 (i : Int)), (rd_L2 x0 (i : Int)).take 100)
theorem framesOf_succ (x0 : List (List Int)) (x1 : List Int) (n : Nat) : framesOf x0 x1 (n + 1) = framesOf x0 x1 n ++ [(kindOf (rd x1 (n : Int)), (rd_L2 x0 (n : Int)).take 100)] := by unfold framesOf; rw [List.range_succ, List.map_append]; rfl
theorem row_bytes {x0 : List (List Int)} (h : ∀ y ∈ x0, Bytes y) (i : Int) : Bytes (rd_L2 x0 i) := by
  unfold rd_L2
  by_cases hi : i.toNat < x0.length
  · rw [List.getD_eq_getElem?_getD, List.getElem?_eq_getElem hi]
    exact h _ (List.getElem_mem hi)
  · rw [List.getD_eq_getElem?_getD, List.getElem?_eq_none (by omega)]
    exact Bytes.nil
theorem framesOf_valid {x0 : List (List Int)} (x1 : List Int) (h : ∀ y ∈ x0, Bytes y) (n : Nat) : ∀ f ∈ framesOf x0 x1 n, Valid f := by
  intro f hf
  simp only [framesOf, List.mem_map, List.mem_range] at hf
  obtain ⟨i, hi, rfl⟩ := hf
  have hk := kindOf_bd (rd x1 (i : Int))
  have hl : ((rd_L2 x0 (i : Int)).take 100).length ≤ 100 := List.length_take_le ..
  exact ⟨hk.1, hk.2, by simp only; omega, (row_bytes h _).take _⟩
theorem framesOf_len (x0 : List (List Int)) (x1 : List Int) (n : Nat) : (flat (framesOf x0 x1 n)).length ≤ 107 * n := by
  induction n with
  | zero => simp [framesOf, flat_nil]
  | succ n ih =>
    rw [framesOf_succ, flat_append, List.length_append, flat_cons, flat_nil, List.append_nil]
    have hl : ((rd_L2 x0 (n : Int)).take 100).length ≤ 100 := List.length_take_le ..
    have h := frameF_length (kindOf (rd x1 (n : Int))) ((rd_L2 x0 (n : Int)).take 100)
    have hz := enc_len_small (n := ((rd_L2 x0 (n : Int)).take 100).length) (by omega)
    simp only
    omega
theorem FrameAll : donatuslaw16_FrameAll.Pure := by
  intro x0 x1 x2 hx0 hx1 hx2
  have hb0 : ∀ y ∈ x0, Bytes y := fun y hy => bytes_wf (hx0.2.2 y hy).2.2
  have hb2 : Bytes x2 := bytes_wf hx2.2.2
  have hm : ∀ y ∈ x0, y.length ≤ 140737488351232 := fun y hy => by have := (hx0.2.2 y hy).2.1; omega
  have hrl : ∀ i : Int, (rd_L2 x0 i).length ≤ 140737488351232 := by
    intro i
    unfold rd_L2
    by_cases hi : i.toNat < x0.length
    · rw [List.getD_eq_getElem?_getD, List.getElem?_eq_getElem hi]
      exact hm _ (List.getElem_mem hi)
    · rw [List.getD_eq_getElem?_getD, List.getElem?_eq_none (by omega)]
      simp
  have h0l : x0.length ≤ 9000000000000 := by have := hx0.2.1; omega
  have h1l := hx1.1
  have h2l := hx2.2.1
  clear hx0 hx1 hx2
  refine Ev.rounds (r := true) ?_
  unfold donatuslaw16_FrameAll.f
  refine Ev.bind begun_ev ?_
  simp only [if_true]
  -- the frames that were sealed are looked at
  have look : ∀ (n : Nat) (more : List S38) (e : Int), n ≤ 10 → n ≤ x0.length → n ≤ x1.length →
      ((openF (x2.take 20)).2.2.2 ≠ 0 → more = [] ∧ e = ((flat (framesOf x0 x1 n)).length : Int)) → ((openF (x2.take 20)).2.2.2 = 0 → more ≠ [] ∧ ((flat (framesOf x0 x1 n)).length : Int) + (openF (x2.take 20)).2.2.1 ≤ e) →
      ∀ (d i : Nat), n - i = d → i ≤ n → Ev (fun k => donatuslaw16_FrameAll.l1 k x0 x1 (flat (framesOf x0 x1 n) ++ x2.take 20) (n : Int) ((flat (framesOf x0 x1 n)).length : Int) ((framesOf x0 x1 n).map (fun f => (⟨f.1, f.2⟩ : S38)) ++ more) e (i : Int)) true := by
    intro n more e h10 hn0 hn1 hne heq d
    have hfl : (framesOf x0 x1 n).length = n := by simp [framesOf]
    have hll := framesOf_len x0 x1 n
    have hbt : Bytes (x2.take 20) := hb2.take 20
    have hlt : (x2.take 20).length ≤ 20 := List.length_take_le ..
    induction d with
    | zero =>
      intro i hd hi
      have hin : i = n := by omega
      subst hin
      refine Ev.step (fun k => by simp only [donatuslaw16_FrameAll.l1]; rw [if_neg (by omega), if_pos (by omega), if_pos (by rw [List.length_append]; omega), Int.toNat_natCast, List.drop_left]) ?_
      refine Ev.bind (refOpen_ev _ hbt (by omega)) ?_
      by_cases h : (openF (x2.take 20)).2.2.2 = 0
      · obtain ⟨hm1, he⟩ := heq h
        have hm2 : 0 < more.length := List.length_pos_iff.2 hm1
        obtain ⟨_, _, _, h4, h5, _⟩ := openF_frame hbt h
        refine Ev.congr (fun k => ?_) (Ev.now _)
        rw [if_pos (by rw [List.length_append, List.length_map, hfl]; omega), if_pos h, wrap64_eq (by omega) (by omega), if_pos (by omega)]
      · obtain ⟨hm1, he⟩ := hne h
        subst hm1
        refine Ev.congr (fun k => ?_) (Ev.now _)
        rw [if_neg (by rw [List.length_append, List.length_map, hfl]; simp), if_pos (by rw [List.length_append, List.length_map, hfl]; simp), if_pos he]
        simp [h]
    | succ d ih =>
      intro i hd hi
      have hil : (i : Int).toNat < ((framesOf x0 x1 n).map (fun f => (⟨f.1, f.2⟩ : S38)) ++ more).length := by rw [List.length_append, List.length_map, hfl]; omega
      have hat : rd_T38 ((framesOf x0 x1 n).map (fun f => (⟨f.1, f.2⟩ : S38)) ++ more) (i : Int) = ⟨kindOf (rd x1 (i : Int)), (rd_L2 x0 (i : Int)).take 100⟩ := by
        unfold rd_T38
        have hi2 : i < ((framesOf x0 x1 n).map (fun f => (⟨f.1, f.2⟩ : S38))).length := by rw [List.length_map, hfl]; omega
        rw [Int.toNat_natCast, List.getD_eq_getElem?_getD, List.getElem?_append_left hi2]
        simp [framesOf, show i < n by omega]
      have hlen : ((((framesOf x0 x1 n).map (fun f => (⟨f.1, f.2⟩ : S38)) ++ more).length : Nat) : Int) = (n : Int) + (more.length : Int) := by rw [List.length_append, List.length_map, hfl]; omega
      refine Ev.step (f := fun k => donatuslaw16_FrameAll.l1 k x0 x1 (flat (framesOf x0 x1 n) ++ x2.take 20) (n : Int) ((flat (framesOf x0 x1 n)).length : Int) ((framesOf x0 x1 n).map (fun f => (⟨f.1, f.2⟩ : S38)) ++ more) e ((i + 1 : Nat) : Int)) (fun k => ?_) (ih (i + 1) (by omega) (by omega))
      conv => lhs; simp only [donatuslaw16_FrameAll.l1]
      rw [if_pos (by omega), if_pos (by omega), if_pos (by rw [hlen]; omega), if_pos (by omega), hat, kindOf_is, if_pos rfl, if_pos (by omega)]
      rw [show donatuslaw1_Short.f (rd_L2 x0 (i : Int)) 100 = some ((rd_L2 x0 (i : Int)).take 100) from Short_is _ 100 (by omega), Option.bind_some, if_pos rfl, wrap64_eq (by omega) (by omega)]
      congr 1
  -- the end: all of them, and a tail
  have done_ : ∀ (n : Nat), n ≤ 10 → n ≤ x0.length → n ≤ x1.length → Ev (fun k => donatuslaw16_FrameAll.j1 k x0 x1 x2 (flat (framesOf x0 x1 n)) (n : Int) (n : Int) false) true := by
    intro n h10 hn0 hn1
    have hv := framesOf_valid x1 hb0 n
    have hll := framesOf_len x0 x1 n
    have hbt : Bytes (x2.take 20) := hb2.take 20
    have hlt : (x2.take 20).length ≤ 20 := List.length_take_le ..
    obtain ⟨more, e, hall, hne, heq⟩ := All_tail (framesOf x0 x1 n) (x2.take 20) hv hbt (by rw [List.length_append]; omega)
    have hfl : (framesOf x0 x1 n).length = n := by simp [framesOf]
    refine Ev.step (fun k => by simp only [donatuslaw16_FrameAll.j1]; rw [if_neg (by simp), show donatuslaw1_Short.f x2 20 = some (x2.take 20) from Short_is _ 20 (by omega), Option.bind_some, if_pos (by omega), Option.bind_some]) ?_
    refine Ev.bind hall ?_
    refine Ev.congr (fun k => if_neg (by rw [List.length_append, List.length_map, hfl]; omega)) ?_
    exact look n more e h10 hn0 hn1 hne heq n 0 (by omega) (by omega)
  have sealing : ∀ (d i : Nat), 10 - i = d → i ≤ 10 → i ≤ x0.length → i ≤ x1.length → Ev (fun k => donatuslaw16_FrameAll.l0 k x0 x1 x2 (flat (framesOf x0 x1 i)) (i : Int) (i : Int)) true := by
    intro d
    induction d with
    | zero =>
      intro i hd hi h0 h1
      refine Ev.step (f := fun k => donatuslaw16_FrameAll.j1 k x0 x1 x2 (flat (framesOf x0 x1 i)) (i : Int) (i : Int) false) (fun k => ?_) (done_ i hi h0 h1)
      simp only [donatuslaw16_FrameAll.l0]
      have hf : decide ((i : Int) < 10) = false := decide_eq_false (by omega)
      rw [hf]
      split
      · split <;> rfl
      · rfl
    | succ d ih =>
      intro i hd hi h0 h1
      by_cases hlt : i < x0.length ∧ i < x1.length
      · have hil := framesOf_len x0 x1 i
        have hk := kindOf_bd (rd x1 (i : Int))
        have hll : ((rd_L2 x0 (i : Int)).take 100).length ≤ 100 := List.length_take_le ..
        refine Ev.step (f := fun k => donatuslaw16_FrameAll.j1 k x0 x1 x2 (flat (framesOf x0 x1 i)) (i : Int) (i : Int) true) (fun k => ?_) ?_
        · simp only [donatuslaw16_FrameAll.l0]
          rw [if_pos (by omega), if_pos (by omega), decide_eq_true (by omega)]
        refine Ev.step (fun k => by simp only [donatuslaw16_FrameAll.j1]; rw [if_pos trivial, if_pos (by omega), if_pos (by omega), if_pos (by omega), show donatuslaw1_Short.f (rd_L2 x0 (i : Int)) 100 = some ((rd_L2 x0 (i : Int)).take 100) from Short_is _ 100 (by omega), Option.bind_some, kindOf_is]) ?_
        refine Ev.bind (refSeal_ev (kindOf (rd x1 (i : Int))) _ (by omega) ((row_bytes hb0 _).take _) (by omega)) ?_
        have hs : sealF (kindOf (rd x1 (i : Int))) ((rd_L2 x0 (i : Int)).take 100) = frameF (kindOf (rd x1 (i : Int))) ((rd_L2 x0 (i : Int)).take 100) := by unfold sealF; rw [if_neg (by omega)]
        rw [hs]
        have hfl := frameF_length (kindOf (rd x1 (i : Int))) ((rd_L2 x0 (i : Int)).take 100)
        have hz := enc_len_small (n := ((rd_L2 x0 (i : Int)).take 100).length) (by omega)
        refine Ev.congr (fun k => by rw [if_pos (by omega), wrap64_eq (by omega) (by omega)]) ?_
        have key := ih (i + 1) (by omega) (by omega) (by omega) (by omega)
        rw [framesOf_succ, flat_append, flat_cons, flat_nil, List.append_nil] at key
        exact key
      · refine Ev.step (f := fun k => donatuslaw16_FrameAll.j1 k x0 x1 x2 (flat (framesOf x0 x1 i)) (i : Int) (i : Int) false) (fun k => ?_) (done_ i hi h0 h1)
        simp only [donatuslaw16_FrameAll.l0]
        by_cases h : (i : Int) < (x0.length : Int)
        · rw [if_pos h, if_neg (by omega)]
        · rw [if_neg h]
  exact sealing 10 0 (by omega) (by omega) (by omega) (by omega)

end Go.Proofs.Ytjnhlbelpflobab.Pure
