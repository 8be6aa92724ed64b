/- NumLong: numbers of so many bytes, the last one any: the program reads them as the document's own function does, at every length up to 14 and every two bytes. -/
import Derived.Test.YtjnhlbelpflobaaPNumLongx2
import Derived.Test.YtjnhlbelpflobaaSpec
namespace Go.Proofs.Ytjnhlbelpflobaa.Pure
open Go.RowKit Go.Proofs.Ytjnhlbelpflobaa.PNumLong Go.Proofs.YtjnhlbelpflobaaW.PrintWords Go.Proofs.YtjnhlbelpflobaaW.PrintLast Go.Proofs.YtjnhlbelpflobaaW.PrintMore Go.Proofs.Ytjnhlbelpflobaa.Spec

theorem Get_loop (l : List Int) (hb : ∀ x ∈ l, 0 ≤ x ∧ x < 256) (r : List Int) : ∀ (i u : Nat), l.drop i = r → u < 2 ^ (7 * i) → i ≤ 9 → Ev (fun k => num_Get.l0 k (u : Int) l (l.length : Int) (i : Int)) (numGet i u r) := by
  induction r with
  | nil =>
    intro i u hd hu hi
    have hge : l.length ≤ i := by simpa using List.drop_eq_nil_iff.1 hd
    refine Ev.step (f := fun _ => some (0, 0, 2)) (fun k => ?_) (Ev.now _)
    simp only [num_Get.l0]
    rw [if_neg (by omega)]
  | cons c r ih =>
    intro i u hd hu hi
    obtain ⟨hrd, hlt, hd'⟩ := rd_cons l i c r hd
    have hc : 0 ≤ c ∧ c < 256 := hb c (List.mem_of_mem_drop (by rw [hd]; exact List.mem_cons_self ..))
    have hpw : (2 : Nat) ^ (7 * i) ≤ 2 ^ 63 := Nat.pow_le_pow_right (by decide) (by omega)
    have hw : wrap64 (7 * (i : Int)) = ((7 * i : Nat) : Int) := by rw [wrap64_eq (by omega) (by omega)]; omega
    have hsmall : ¬(i = 9 ∧ c > 1) → (c % 128) * 2 ^ (7 * i) < 2 ^ 64 := by
      intro h
      have : ((c % 128).toNat) * 2 ^ (7 * i) < 2 ^ 64 := by
        rcases Nat.lt_or_ge i 9 with h9 | h9
        · have h5 : (2 : Nat) ^ (7 * i) ≤ 2 ^ 56 := Nat.pow_le_pow_right (by decide) (by omega)
          have := Nat.mul_le_mul (show (c % 128).toNat ≤ 127 by omega) h5
          omega
        · have h10 : i = 9 := by omega
          subst h10
          have := Nat.mul_le_mul (show (c % 128).toNat ≤ 1 by omega) (Nat.le_refl (2 ^ (7 * 9)))
          omega
      have ec : (((c % 128).toNat : Nat) : Int) = c % 128 := by omega
      have e : ((c % 128) * 2 ^ (7 * i) : Int) = (((c % 128).toNat * 2 ^ (7 * i) : Nat) : Int) := by
        rw [Int.natCast_mul, ec]
        simp
      rw [e]
      exact_mod_cast this
    have hacc : ¬(i = 9 ∧ c > 1) → Go.bits .or .u64 (u : Int) (shl .u64 (IntKind.u64.wrap (Go.bits .and .u8 c 127)) (wrap64 (7 * (i : Int)))) = ((u + (c % 128).toNat * 2 ^ (7 * i) : Nat) : Int) := by
      intro h
      rw [and127 hc.1 hc.2, wrap_u64, show c % 128 % 18446744073709551616 = c % 128 by omega, hw, or_join (7 * i) (by omega) (by exact_mod_cast hu) (by omega) (by omega) (hsmall h)]
      have ec : (((c % 128).toNat : Nat) : Int) = c % 128 := by omega
      rw [Int.natCast_add, Int.natCast_mul, ec]
      simp
    have hlim : ¬(i = 9 ∧ c > 1) → u + (c % 128).toNat * 2 ^ (7 * i) < 18446744073709551616 := by
      intro h
      rcases Nat.lt_or_ge i 9 with h9 | h9
      · have h5 : (2 : Nat) ^ (7 * i) ≤ 2 ^ 56 := Nat.pow_le_pow_right (by decide) (by omega)
        have := Nat.mul_le_mul (show (c % 128).toNat ≤ 127 by omega) h5
        omega
      · have h10 : i = 9 := by omega
        subst h10
        have := Nat.mul_le_mul (show (c % 128).toNat ≤ 1 by omega) (Nat.le_refl (2 ^ (7 * 9)))
        omega
    refine Ev.step (f := fun k => num_Get.j1 k (u : Int) (i : Int) c l (l.length : Int) (i : Int) (decide (i = 9 ∧ c > 1))) (fun k => ?_) ?_
    · simp only [num_Get.l0]
      rw [if_pos (by omega), if_pos (by omega), if_pos (by omega), hrd]
      by_cases h9 : i = 9
      · rw [if_pos (by omega)]
        congr 1
        simp [h9]
      · rw [if_neg (by omega)]
        congr 1
        simp [h9]
    · rw [numGet]
      by_cases h1 : i = 9 ∧ c > 1
      · rw [if_pos h1]
        refine Ev.step (f := fun _ => some (0, 0, 1)) (fun k => ?_) (Ev.now _)
        simp only [num_Get.j1]
        rw [if_pos (by simpa using h1)]
      · rw [if_neg h1]
        have hacc' := hacc h1
        have hlim' := hlim h1
        by_cases h2 : c > 127
        · rw [if_pos h2]
          have e2 : 2 ^ (7 * (i + 1)) = 128 * 2 ^ (7 * i) := by rw [Nat.mul_add, Nat.pow_add, Nat.mul_comm]
          have hu' : u + (c % 128).toNat * 2 ^ (7 * i) < 2 ^ (7 * (i + 1)) := by
            rw [e2]
            have : (c % 128).toNat * 2 ^ (7 * i) ≤ 127 * 2 ^ (7 * i) := Nat.mul_le_mul_right _ (by omega)
            omega
          refine Ev.step (f := fun k => num_Get.l0 k ((u + (c % 128).toNat * 2 ^ (7 * i) : Nat) : Int) l (l.length : Int) ((i + 1 : Nat) : Int)) (fun k => ?_) (ih (i + 1) _ hd' hu' (by omega))
          simp only [num_Get.j1]
          rw [if_neg (by simpa using h1), if_pos (by rw [hw]; omega), if_pos h2, hacc', wrap64_eq (by omega) (by omega)]
          rfl
        · rw [if_neg h2]
          have hcm : (c % 128).toNat = c.toNat := by omega
          rw [hcm] at hacc' hlim'
          have fin : Ev (fun k => num_Get.j2 k ((u + c.toNat * 2 ^ (7 * i) : Nat) : Int) (i : Int) (decide (0 < i ∧ c = 0))) (if 0 < i ∧ c = 0 then (0, 0, 1) else (zag (u + c.toNat * 2 ^ (7 * i)), (i : Int) + 1, 0)) := by
            by_cases h3 : 0 < i ∧ c = 0
            · rw [if_pos h3]
              refine Ev.step (f := fun _ => some (0, 0, 1)) (fun k => ?_) (Ev.now _)
              simp only [num_Get.j2]
              rw [if_pos (by simpa using h3)]
            · rw [if_neg h3]
              refine Ev.step (f := fun _ => some (zag (u + c.toNat * 2 ^ (7 * i)), (i : Int) + 1, 0)) (fun k => ?_) (Ev.now _)
              simp only [num_Get.j2]
              rw [if_neg (by simpa using h3), and1_u64 (by omega) (by omega), wrap64_eq (n := (i : Int) + 1) (by omega) (by omega)]
              generalize u + c.toNat * 2 ^ (7 * i) = m at hlim'
              unfold zag
              by_cases h4 : m % 2 = 1
              · rw [if_pos (by omega), if_pos h4, wrap64_eq (by omega) (by omega), not_i64 (by omega) (by omega)]
                congr 3
              · rw [if_neg (by omega), if_neg h4, wrap64_eq (by omega) (by omega)]
                congr 3
          refine Ev.step (fun k => ?_) fin
          simp only [num_Get.j1]
          rw [if_neg (by simpa using h1), if_pos (by rw [hw]; omega), if_neg h2, hacc']
          by_cases h3 : 0 < i
          · rw [if_pos (by omega)]
            congr 1
            simp [h3, Bool.beq_eq_decide_eq]
          · rw [if_neg (by omega)]
            congr 1
            simp [h3]
theorem Get_ev (l : List Int) (hb : ∀ x ∈ l, 0 ≤ x ∧ x < 256) : Ev (fun k => num_Get.f k l) (numGet 0 0 l) :=
  Get_loop l hb l 0 0 rfl (by simp) (by omega)

theorem refGet_loop (l : List Int) (hb : ∀ x ∈ l, 0 ≤ x ∧ x < 256) (r : List Int) : ∀ (i u : Nat), l.drop i = r → u < 2 ^ (7 * i) → i ≤ 9 → Ev (fun k => donatusref1_Get.l0 k l (u : Int) ((2 ^ (7 * i) : Nat) : Int) (i : Int)) (numGet i u r) := by
  induction r with
  | nil =>
    intro i u hd hu hi
    have hge : l.length ≤ i := by simpa using List.drop_eq_nil_iff.1 hd
    refine Ev.step (f := fun _ => some (0, 0, 2)) (fun k => ?_) (Ev.now _)
    simp only [donatusref1_Get.l0]
    rw [if_neg (by omega)]
  | cons c r ih =>
    intro i u hd hu hi
    obtain ⟨hrd, hlt, hd'⟩ := rd_cons l i c r hd
    have hc : 0 ≤ c ∧ c < 256 := hb c (List.mem_of_mem_drop (by rw [hd]; exact List.mem_cons_self ..))
    have hpw : (2 : Nat) ^ (7 * i) ≤ 2 ^ 63 := Nat.pow_le_pow_right (by decide) (by omega)
    have hlim : ¬(i = 9 ∧ c > 1) → u + (c % 128).toNat * 2 ^ (7 * i) < 18446744073709551616 := by
      intro h
      rcases Nat.lt_or_ge i 9 with h9 | h9
      · have h5 : (2 : Nat) ^ (7 * i) ≤ 2 ^ 56 := Nat.pow_le_pow_right (by decide) (by omega)
        have := Nat.mul_le_mul (show (c % 128).toNat ≤ 127 by omega) h5
        omega
      · have h10 : i = 9 := by omega
        subst h10
        have := Nat.mul_le_mul (show (c % 128).toNat ≤ 1 by omega) (Nat.le_refl (2 ^ (7 * 9)))
        omega
    have hd : IntKind.u64.wrap (Int.tmod c 128) = (((c % 128).toNat : Nat) : Int) := by
      rw [Int.tmod_eq_emod_of_nonneg hc.1, wrap_u64]
      omega
    have hacc : ¬(i = 9 ∧ c > 1) → IntKind.u64.wrap ((u : Int) + IntKind.u64.wrap ((((c % 128).toNat : Nat) : Int) * ((2 ^ (7 * i) : Nat) : Int))) = ((u + (c % 128).toNat * 2 ^ (7 * i) : Nat) : Int) := by
      intro h
      have := hlim h
      rw [← Int.natCast_mul, wrap_u64, wrap_u64]
      omega
    refine Ev.step (f := fun k => donatusref1_Get.j1 k l (u : Int) ((2 ^ (7 * i) : Nat) : Int) (i : Int) (((c % 128).toNat : Nat) : Int) (decide (i = 9 ∧ c > 1 ∨ 0 < i ∧ c = 0))) (fun k => ?_) ?_
    · simp only [donatusref1_Get.l0]
      rw [if_pos (by omega), if_pos (by omega), hrd, hd]
      by_cases h9 : i = 9
      · rw [if_pos (by omega)]
        by_cases h1 : c > 1
        · rw [if_pos h1]; congr 1; simp [h9, h1]
        · rw [if_neg h1, if_pos (by omega)]; congr 1; simp [h9, h1, Bool.beq_eq_decide_eq]
      · rw [if_neg (by omega)]
        by_cases h1 : 0 < i
        · rw [if_pos (by omega)]; congr 1; simp [h9, h1, Bool.beq_eq_decide_eq]
        · rw [if_neg (by omega)]; congr 1; simp [h9, h1]
    · rw [numGet]
      have key : ¬(i = 9 ∧ c > 1 ∨ 0 < i ∧ c = 0) → Ev (fun k => donatusref1_Get.j1 k l (u : Int) ((2 ^ (7 * i) : Nat) : Int) (i : Int) (((c % 128).toNat : Nat) : Int) false) (if c > 127 then numGet (i + 1) (u + (c % 128).toNat * 2 ^ (7 * i)) r else (zag (u + c.toNat * 2 ^ (7 * i)), (i : Int) + 1, 0)) := by
        intro hn
        have h1 : ¬(i = 9 ∧ c > 1) := fun h => hn (.inl h)
        have hacc' := hacc h1
        have hlim' := hlim h1
        by_cases h2 : c > 127
        · rw [if_pos h2]
          have e2 : 2 ^ (7 * (i + 1)) = 128 * 2 ^ (7 * i) := by rw [Nat.mul_add, Nat.pow_add, Nat.mul_comm]
          have hu' : u + (c % 128).toNat * 2 ^ (7 * i) < 2 ^ (7 * (i + 1)) := by
            rw [e2]
            have : (c % 128).toNat * 2 ^ (7 * i) ≤ 127 * 2 ^ (7 * i) := Nat.mul_le_mul_right _ (by omega)
            omega
          have hi9 : i < 9 := by omega
          have h5 : (2 : Nat) ^ (7 * i) ≤ 2 ^ 56 := Nat.pow_le_pow_right (by decide) (by omega)
          refine Ev.step (fun k => ?_) (ih (i + 1) _ hd' hu' (by omega))
          simp only [donatusref1_Get.j1]
          rw [if_neg (by simp), if_pos (by omega), if_pos (by omega), hrd, if_neg (by omega), hacc', wrap64_eq (n := (i : Int) + 1) (by omega) (by omega), wrap_u64, e2]
          congr 1
          rw [Int.natCast_mul]
          omega
        · rw [if_neg h2]
          have hcm : (c % 128).toNat = c.toNat := by omega
          rw [hcm] at hacc' hlim' ⊢
          refine Ev.step (f := fun _ => some (zag (u + c.toNat * 2 ^ (7 * i)), (i : Int) + 1, 0)) (fun k => ?_) (Ev.now _)
          simp only [donatusref1_Get.j1]
          rw [if_neg (by simp), if_pos (by omega), if_pos (by omega), hrd, if_pos (by omega), hacc', wrap64_eq (n := (i : Int) + 1) (by omega) (by omega)]
          generalize u + c.toNat * 2 ^ (7 * i) = m at hlim'
          rw [Int.tmod_eq_emod_of_nonneg (by omega), Int.tdiv_eq_ediv_of_nonneg (by omega), wrap_u64]
          unfold zag
          by_cases h4 : m % 2 = 1
          · rw [if_pos (by omega), if_pos h4]
            have e : wrap64 (wrap64 (-wrap64 ((m : Int) / 2 % 18446744073709551616)) - 1) = -((m / 2 : Nat) : Int) - 1 := by
              rw [wrap64_eq (n := (m : Int) / 2 % 18446744073709551616) (by omega) (by omega), wrap64_eq (n := -((m : Int) / 2 % 18446744073709551616)) (by omega) (by omega), wrap64_eq (by omega) (by omega)]
              omega
            rw [e]
          · rw [if_neg (by omega), if_neg h4]
            have e : wrap64 ((m : Int) / 2 % 18446744073709551616) = ((m / 2 : Nat) : Int) := by
              rw [wrap64_eq (by omega) (by omega)]
              omega
            rw [e]
      by_cases hn : i = 9 ∧ c > 1 ∨ 0 < i ∧ c = 0
      · have e : (if i = 9 ∧ c > 1 then ((0 : Int), (0 : Int), (1 : Int)) else if c > 127 then numGet (i + 1) (u + (c % 128).toNat * 2 ^ (7 * i)) r else if 0 < i ∧ c = 0 then (0, 0, 1) else (zag (u + c.toNat * 2 ^ (7 * i)), (i : Int) + 1, 0)) = (0, 0, 1) := by
          by_cases h1 : i = 9 ∧ c > 1
          · rw [if_pos h1]
          · have h2 : 0 < i ∧ c = 0 := by omega
            rw [if_neg h1, if_neg (by omega), if_pos h2]
        rw [e]
        refine Ev.step (f := fun _ => some (0, 0, 1)) (fun k => ?_) (Ev.now _)
        simp only [donatusref1_Get.j1]
        rw [if_pos (by simpa using hn)]
      · have h1 : ¬(i = 9 ∧ c > 1) := fun h => hn (.inl h)
        have h2 : ¬(0 < i ∧ c = 0) := fun h => hn (.inr h)
        rw [if_neg h1, if_neg h2]
        have e : decide (i = 9 ∧ c > 1 ∨ 0 < i ∧ c = 0) = false := decide_eq_false hn
        rw [e]
        exact key hn
theorem refGet_ev (l : List Int) (hb : ∀ x ∈ l, 0 ≤ x ∧ x < 256) : Ev (fun k => donatusref1_Get.f k l) (numGet 0 0 l) :=
  refGet_loop l hb l 0 0 rfl (by simp) (by omega)

theorem begun_ev : Ev (fun k => donatuslaw1_begun.f k) true := Ev.of (fun k => donatuslaw1_begun.mono k) (k := 20) (by decide +kernel)
theorem NumLong : donatuslaw1_NumLong.Pure := by
  intro n x f hn hx hf
  have hn := i64_bd hn
  have hx := u8_bd hx
  have hf := u8_bd hf
  refine Ev.rounds (r := true) ?_
  unfold donatuslaw1_NumLong.f
  refine Ev.bind begun_ev ?_
  simp only [if_true]
  have fin : ∀ l : List Int, (∀ y ∈ l, 0 ≤ y ∧ y < 256) → Ev (fun k => (num_Get.f k l).bind fun bt157 => ((donatusref1_Get.f k l).bind fun bt160 => (if bt157.1 = bt160.1 then (if bt157.2.1 = bt160.2.1 then (some (bt157.2.2 == bt160.2.2)) else (some false)) else (some false)))) true := by
    intro l hl
    refine Ev.bind (Get_ev l hl) (Ev.bind (refGet_ev l hl) ?_)
    simp only [if_true, beq_self_eq_true]
    exact Ev.now _
  have loop : ∀ (d : Nat) (i : Int) (l : List Int), n - i = d → 0 ≤ i → n ≤ 14 → l.length = i.toNat → (∀ y ∈ l, 0 ≤ y ∧ y < 256) → Ev (fun k => donatuslaw1_NumLong.l0 k n x f l i) true := by
    intro d
    induction d with
    | zero =>
      intro i l hd h0 h14 hl hb
      refine Ev.step (fun k => by simp only [donatuslaw1_NumLong.l0]; rw [if_neg (by omega), if_pos (by omega)]; rfl) (fin (l ++ [x]) ?_)
      intro y hy
      rcases List.mem_append.1 hy with h | h
      · exact hb y h
      · simp at h; omega
    | succ d ih =>
      intro i l hd h0 h14 hl hb
      refine Ev.step (fun k => by simp only [donatuslaw1_NumLong.l0]; rw [if_pos (by omega), if_pos (by omega), wrap64_eq (n := i + 1) (by omega) (by omega)]) (ih (i + 1) _ (by omega) (by omega) h14 ?_ ?_)
      · simp; omega
      · intro y hy
        rcases List.mem_append.1 hy with h | h
        · exact hb y h
        · rw [or128 hf.1 hf.2] at h
          simp at h; omega
  have key : Ev (fun k => donatuslaw1_NumLong.j0 k n x f (decide (n < 0 ∨ n > 14))) true := by
    by_cases h : n < 0 ∨ n > 14
    · refine Ev.step (f := fun _ => some true) (fun k => ?_) (Ev.now _)
      simp only [donatuslaw1_NumLong.j0]
      rw [if_pos (by simpa using h)]
    · refine Ev.step (fun k => by simp only [donatuslaw1_NumLong.j0]; rw [if_neg (by simpa using h)]) (loop n.toNat 0 [] (by omega) (by omega) (by omega) (by simp) (by simp))
  refine Ev.congr (fun k => ?_) key
  by_cases h : n < 0
  · rw [if_pos h]; congr 1; simp [h]
  · rw [if_neg h]; congr 1; simp [h]

end Go.Proofs.Ytjnhlbelpflobaa.Pure
