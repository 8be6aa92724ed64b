/- FrameInside: frames within a frame are not told as long as it is whole, and those within it are told when they stand alone: for every number of them up to fifty. -/
import Derived.Test.YtjnhlbelpflobabPFrameInsidex4
import Derived.Test.YtjnhlbelpflobabFrame
namespace Go.Proofs.Ytjnhlbelpflobab.Pure
open Go.RowKit Go.Proofs.Ytjnhlbelpflobab.PFrameInside Go.Proofs.YtjnhlbelpflobabW.PrintWords Go.Proofs.YtjnhlbelpflobabW.PrintLast Go.Proofs.YtjnhlbelpflobabW.PrintMore Go.Proofs.Ytjnhlbelpflobab.Spec

theorem Put_loop (u : Nat) : ∀ (l : List Int), l.length + (enc u).length ≤ 140737488355328 → Ev (fun k => num_Put.l0 k l (u : Int)) (l ++ enc u) := by
  induction u using Nat.strongRecOn with
  | _ u ih =>
    intro l hl
    have hp := enc_pos u
    by_cases h : u < 128
    · refine Ev.step (f := fun _ => some (l ++ enc u)) (fun k => ?_) (Ev.now _)
      simp only [num_Put.l0]
      rw [if_neg (by omega), if_pos (by omega), enc_small h, show (u : Int) % 256 = (u : Int) from by omega]
    · refine Ev.step (f := fun k => num_Put.l0 k (l ++ [((u % 128 + 128 : Nat) : Int)]) ((u / 128 : Nat) : Int)) (fun k => ?_) ?_
      · simp only [num_Put.l0]
        rw [if_pos (by omega), if_pos (by omega), or128 (by omega) (by omega)]
        congr 2
        · congr 1
          omega
      · have e : l ++ enc u = (l ++ [((u % 128 + 128 : Nat) : Int)]) ++ enc (u / 128) := by rw [enc_step (by omega)]; simp
        rw [e]
        refine ih (u / 128) (by omega) _ ?_
        rw [enc_step (u := u) (by omega), List.length_cons] at hl
        simp only [List.length_append, List.length_cons, List.length_nil]
        omega
theorem Put_ev (l : List Int) {a : Int} (h0 : -9223372036854775808 ≤ a) (h1 : a ≤ 9223372036854775807) (hl : l.length + 10 ≤ 140737488355328) : Ev (fun k => num_Put.f k l a) (l ++ enc (zig a)) := by
  have hz := enc_len10 (zig_lt h0 h1)
  have key : Ev (fun k => num_Put.j0 k l ((zig a : Nat) : Int)) (l ++ enc (zig a)) := Ev.step (fun k => rfl) (Put_loop _ _ (by omega))
  refine Ev.congr (fun k => ?_) key
  unfold num_Put.f
  by_cases h : a < 0
  · rw [if_pos h, wrap_u64, wrap_u64, not_u64 (by omega) (by omega)]
    congr 1
    unfold zig
    rw [if_pos h]
    omega
  · rw [if_neg h, wrap_u64, wrap_u64]
    congr 1
    unfold zig
    rw [if_neg h]
    omega

theorem Get_loop (l : List Int) (hb : ∀ x ∈ l, 0 ≤ x ∧ x < 256) (r : List Int) : ∀ (i u : Nat), l.drop i = r → u < 2 ^ (7 * i) → i ≤ 9 → Ev (fun k => num_Get.l0 k (u : Int) l (l.length : Int) (i : Int)) (numGet i u r) := by
  induction r with
  | nil =>
    intro i u hd hu hi
    have hge : l.length ≤ i := by simpa using List.drop_eq_nil_iff.1 hd
    refine Ev.step (f := fun _ => some (0, 0, 2)) (fun k => ?_) (Ev.now _)
    simp only [num_Get.l0]
    rw [if_neg (by omega)]
  | cons c r ih =>
    intro i u hd hu hi
    obtain ⟨hrd, hlt, hd'⟩ := rd_cons l i c r hd
    have hc : 0 ≤ c ∧ c < 256 := hb c (List.mem_of_mem_drop (by rw [hd]; exact List.mem_cons_self ..))
    have hpw : (2 : Nat) ^ (7 * i) ≤ 2 ^ 63 := Nat.pow_le_pow_right (by decide) (by omega)
    have hw : wrap64 (7 * (i : Int)) = ((7 * i : Nat) : Int) := by rw [wrap64_eq (by omega) (by omega)]; omega
    have hsmall : ¬(i = 9 ∧ c > 1) → (c % 128) * 2 ^ (7 * i) < 2 ^ 64 := by
      intro h
      have : ((c % 128).toNat) * 2 ^ (7 * i) < 2 ^ 64 := by
        rcases Nat.lt_or_ge i 9 with h9 | h9
        · have h5 : (2 : Nat) ^ (7 * i) ≤ 2 ^ 56 := Nat.pow_le_pow_right (by decide) (by omega)
          have := Nat.mul_le_mul (show (c % 128).toNat ≤ 127 by omega) h5
          omega
        · have h10 : i = 9 := by omega
          subst h10
          have := Nat.mul_le_mul (show (c % 128).toNat ≤ 1 by omega) (Nat.le_refl (2 ^ (7 * 9)))
          omega
      have ec : (((c % 128).toNat : Nat) : Int) = c % 128 := by omega
      have e : ((c % 128) * 2 ^ (7 * i) : Int) = (((c % 128).toNat * 2 ^ (7 * i) : Nat) : Int) := by
        rw [Int.natCast_mul, ec]
        simp
      rw [e]
      exact_mod_cast this
    have hacc : ¬(i = 9 ∧ c > 1) → Go.bits .or .u64 (u : Int) (shl .u64 (IntKind.u64.wrap (Go.bits .and .u8 c 127)) (wrap64 (7 * (i : Int)))) = ((u + (c % 128).toNat * 2 ^ (7 * i) : Nat) : Int) := by
      intro h
      rw [and127 hc.1 hc.2, wrap_u64, show c % 128 % 18446744073709551616 = c % 128 by omega, hw, or_join (7 * i) (by omega) (by exact_mod_cast hu) (by omega) (by omega) (hsmall h)]
      have ec : (((c % 128).toNat : Nat) : Int) = c % 128 := by omega
      rw [Int.natCast_add, Int.natCast_mul, ec]
      simp
    have hlim : ¬(i = 9 ∧ c > 1) → u + (c % 128).toNat * 2 ^ (7 * i) < 18446744073709551616 := by
      intro h
      rcases Nat.lt_or_ge i 9 with h9 | h9
      · have h5 : (2 : Nat) ^ (7 * i) ≤ 2 ^ 56 := Nat.pow_le_pow_right (by decide) (by omega)
        have := Nat.mul_le_mul (show (c % 128).toNat ≤ 127 by omega) h5
        omega
      · have h10 : i = 9 := by omega
        subst h10
        have := Nat.mul_le_mul (show (c % 128).toNat ≤ 1 by omega) (Nat.le_refl (2 ^ (7 * 9)))
        omega
    refine Ev.step (f := fun k => num_Get.j1 k (u : Int) (i : Int) c l (l.length : Int) (i : Int) (decide (i = 9 ∧ c > 1))) (fun k => ?_) ?_
    · simp only [num_Get.l0]
      rw [if_pos (by omega), if_pos (by omega), if_pos (by omega), hrd]
      by_cases h9 : i = 9
      · rw [if_pos (by omega)]
        congr 1
        simp [h9]
      · rw [if_neg (by omega)]
        congr 1
        simp [h9]
    · rw [numGet]
      by_cases h1 : i = 9 ∧ c > 1
      · rw [if_pos h1]
        refine Ev.step (f := fun _ => some (0, 0, 1)) (fun k => ?_) (Ev.now _)
        simp only [num_Get.j1]
        rw [if_pos (by simpa using h1)]
      · rw [if_neg h1]
        have hacc' := hacc h1
        have hlim' := hlim h1
        by_cases h2 : c > 127
        · rw [if_pos h2]
          have e2 : 2 ^ (7 * (i + 1)) = 128 * 2 ^ (7 * i) := by rw [Nat.mul_add, Nat.pow_add, Nat.mul_comm]
          have hu' : u + (c % 128).toNat * 2 ^ (7 * i) < 2 ^ (7 * (i + 1)) := by
            rw [e2]
            have : (c % 128).toNat * 2 ^ (7 * i) ≤ 127 * 2 ^ (7 * i) := Nat.mul_le_mul_right _ (by omega)
            omega
          refine Ev.step (f := fun k => num_Get.l0 k ((u + (c % 128).toNat * 2 ^ (7 * i) : Nat) : Int) l (l.length : Int) ((i + 1 : Nat) : Int)) (fun k => ?_) (ih (i + 1) _ hd' hu' (by omega))
          simp only [num_Get.j1]
          rw [if_neg (by simpa using h1), if_pos (by rw [hw]; omega), if_pos h2, hacc', wrap64_eq (by omega) (by omega)]
          rfl
        · rw [if_neg h2]
          have hcm : (c % 128).toNat = c.toNat := by omega
          rw [hcm] at hacc' hlim'
          have fin : Ev (fun k => num_Get.j2 k ((u + c.toNat * 2 ^ (7 * i) : Nat) : Int) (i : Int) (decide (0 < i ∧ c = 0))) (if 0 < i ∧ c = 0 then (0, 0, 1) else (zag (u + c.toNat * 2 ^ (7 * i)), (i : Int) + 1, 0)) := by
            by_cases h3 : 0 < i ∧ c = 0
            · rw [if_pos h3]
              refine Ev.step (f := fun _ => some (0, 0, 1)) (fun k => ?_) (Ev.now _)
              simp only [num_Get.j2]
              rw [if_pos (by simpa using h3)]
            · rw [if_neg h3]
              refine Ev.step (f := fun _ => some (zag (u + c.toNat * 2 ^ (7 * i)), (i : Int) + 1, 0)) (fun k => ?_) (Ev.now _)
              simp only [num_Get.j2]
              rw [if_neg (by simpa using h3), and1_u64 (by omega) (by omega), wrap64_eq (n := (i : Int) + 1) (by omega) (by omega)]
              generalize u + c.toNat * 2 ^ (7 * i) = m at hlim'
              unfold zag
              by_cases h4 : m % 2 = 1
              · rw [if_pos (by omega), if_pos h4, wrap64_eq (by omega) (by omega), not_i64 (by omega) (by omega)]
                congr 3
              · rw [if_neg (by omega), if_neg h4, wrap64_eq (by omega) (by omega)]
                congr 3
          refine Ev.step (fun k => ?_) fin
          simp only [num_Get.j1]
          rw [if_neg (by simpa using h1), if_pos (by rw [hw]; omega), if_neg h2, hacc']
          by_cases h3 : 0 < i
          · rw [if_pos (by omega)]
            congr 1
            simp [h3, Bool.beq_eq_decide_eq]
          · rw [if_neg (by omega)]
            congr 1
            simp [h3]
theorem Get_ev (l : List Int) (hb : ∀ x ∈ l, 0 ≤ x ∧ x < 256) : Ev (fun k => num_Get.f k l) (numGet 0 0 l) :=
  Get_loop l hb l 0 0 rfl (by simp) (by omega)

theorem More_bits (l : List Int) (i : Int) (r : Int) (d : Nat) : ∀ (x : Nat) (j : Int), x < 4294967296 → 8 - j = d → 0 ≤ j → Ev (fun k => crc_More.l0 k ((crcSteps d x : Nat) : Int) l (l.length : Int) (wrap64 (i + 1))) r →
    Ev (fun k => crc_More.l1 k (x : Int) l (l.length : Int) i j) r := by
  induction d with
  | zero =>
    intro x j hx hd h0 h
    refine Ev.step (fun k => ?_) h
    simp only [crc_More.l1]
    rw [if_neg (by omega)]
    rfl
  | succ d ih =>
    intro x j hx hd h0 h
    refine Ev.step (fun k => ?_) (ih (crcStep x) (j + 1) (crcStep_lt hx) (by omega) (by omega) h)
    simp only [crc_More.l1]
    rw [if_pos (by omega), crc_bits hx, wrap64_eq (n := j + 1) (by omega) (by omega)]
theorem More_loop (l : List Int) (hb : Bytes l) (hl : l.length ≤ 140737488355328) (r : List Int) : ∀ (x : Nat) (i : Nat), x < 4294967296 → l.drop i = r → i ≤ l.length → Ev (fun k => crc_More.l0 k (x : Int) l (l.length : Int) (i : Int)) ((4294967295 - crcRun x r : Nat) : Int) := by
  induction r with
  | nil =>
    intro x i hx hd hi
    have hge : l.length ≤ i := by simpa using List.drop_eq_nil_iff.1 hd
    refine Ev.step (f := fun _ => some ((4294967295 - crcRun x [] : Nat) : Int)) (fun k => ?_) (Ev.now _)
    simp only [crc_More.l0]
    rw [if_neg (by omega), not_u32 (by omega) (by omega)]
    congr 1
    simp only [crcRun]
    omega
  | cons c r ih =>
    intro x i hx hd hi
    obtain ⟨hrd, hlt, hd'⟩ := rd_cons l i c r hd
    have hc : 0 ≤ c ∧ c < 256 := hb c (List.mem_of_mem_drop (by rw [hd]; exact List.mem_cons_self ..))
    have hx' : x ^^^ c.toNat < 4294967296 := xor_byte_lt hx hc.2
    have key := ih (crcSteps 8 (x ^^^ c.toNat)) (i + 1) (crcSteps_lt 8 hx') hd' (by omega)
    refine Ev.step (fun k => ?_) (More_bits l (i : Int) ((4294967295 - crcRun x (c :: r) : Nat) : Int) 8 (x ^^^ c.toNat) 0 hx' (by omega) (by omega) ?_)
    · simp only [crc_More.l0]
      rw [if_pos (by omega), if_pos (by omega), if_pos (by omega), hrd, crc_in hx hc]
    · rw [wrap64_eq (n := (i : Int) + 1) (by omega) (by omega)]
      exact key
theorem More_ev (s : Nat) (hs : s < 4294967296) (l : List Int) (hb : Bytes l) (hl : l.length ≤ 140737488355328) : Ev (fun k => crc_More.f k (s : Int) l) ((crcMore s l : Nat) : Int) := by
  have := More_loop l hb hl l (4294967295 - s) 0 (by omega) rfl (by omega)
  refine Ev.congr (fun k => ?_) this
  unfold crc_More.f
  rw [not_u32 (by omega) (by omega)]
  congr 1
  omega
theorem Sum_ev (l : List Int) (hb : Bytes l) (hl : l.length ≤ 140737488355328) : Ev (fun k => crc_Sum.f k l) ((crcMore 0 l : Nat) : Int) := by
  unfold crc_Sum.f
  exact Ev.bind (More_ev 0 (by omega) l hb hl) (Ev.now _)

theorem Four_ev (s : Nat) : num_Four.f (s : Int) = some (four s) := by
  unfold num_Four.f
  rw [four_is]
theorem Seal_ev (kind : Int) (b : List Int) (hk : -9223372036854775808 ≤ kind ∧ kind ≤ 9223372036854775807) (hb : Bytes b) (hl : b.length ≤ 140737488355328) : Ev (fun k => frame_Seal.f k kind b) (sealF kind b) := by
  have key : Ev (fun k => frame_Seal.j0 k kind b (decide (kind < 1 ∨ kind > 255 ∨ b.length > 4000))) (sealF kind b) := by
    unfold sealF
    by_cases h : kind < 1 ∨ kind > 255 ∨ b.length > 4000
    · rw [if_pos h]
      refine Ev.step (f := fun _ => some []) (fun k => ?_) (Ev.now _)
      simp only [frame_Seal.j0]
      rw [if_pos (by simpa using h)]
    · rw [if_neg h]
      refine Ev.step (fun k => by simp only [frame_Seal.j0]; rw [if_neg (by simpa using h)]) ?_
      have hh : [kind % 256] ++ enc (zig (b.length : Int)) = headF kind b.length := by
        unfold headF
        rw [show kind % 256 = kind by omega]
        rfl
      have hz := enc_len_small (n := b.length) (by omega)
      have hhl : (headF kind b.length).length ≤ 3 := by rw [headF_length]; omega
      have hhb : Bytes (headF kind b.length) := headF_bytes (by omega)
      refine Ev.bind (Put_ev [kind % 256] (a := (b.length : Int)) (by omega) (by omega) (by simp)) ?_
      rw [hh]
      refine Ev.bind (Sum_ev _ hhb (by omega)) (Ev.bind (More_ev _ (crcMore_lt _ _) b hb hl) ?_)
      rw [crcMore_append 0 _ _ (by omega) hhb]
      simp only [Four_ev, Option.bind_some]
      refine Ev.congr (fun k => by rw [if_pos (by rw [four_length]; omega), if_pos (by rw [List.length_append, four_length]; omega)]) ?_
      rw [List.append_assoc]
      exact Ev.now _
  refine Ev.congr (fun k => ?_) key
  unfold frame_Seal.f
  by_cases h : kind < 1
  · rw [if_pos h]; congr 1; simp [h]
  · rw [if_neg h]
    by_cases h2 : kind > 255
    · rw [if_pos h2]; congr 1; simp [h2]
    · rw [if_neg h2]; congr 1; simp [h, h2]; omega

theorem Open_ev (l : List Int) (hb : Bytes l) (hl : l.length ≤ 140737488355328 - 1) : Ev (fun k => frame_Open.f k l) (openF l) := by
  unfold frame_Open.f
  cases l with
  | nil => exact Ev.now _
  | cons c r =>
    have hc := hb c (List.mem_cons_self ..)
    have hbr : Bytes r := Bytes.tail hb
    have hrd : rd (c :: r) 0 = c := rfl
    have hlen : ((c :: r).length : Int) = (r.length : Int) + 1 := by simp
    refine Ev.congr (fun k => by rw [if_neg (by omega), if_pos (by omega), hrd]) ?_
    unfold openF
    simp only
    by_cases h0 : c = 0
    · simp only [if_pos h0]; exact Ev.now _
    simp only [if_neg h0]
    refine Ev.congr (fun k => if_pos (by omega)) ?_
    have hd1 : (c :: r).drop 1 = r := rfl
    rw [hd1]
    refine Ev.bind (Get_ev r hbr) ?_
    have hok := numGet_ok r hbr
    have hfail := numGet_fail r hbr
    generalize numGet 0 0 r = q at *
    obtain ⟨n, m, e⟩ := q
    simp only at *
    have key : Ev (fun k => frame_Open.j0 k (c :: r) n m e (decide (e = 2 ∧ (c :: r).length ≤ 2))) (if e = 2 ∧ (c :: r).length ≤ 2 then ((0 : Int), ([] : List Int), (0 : Int), (2 : Int)) else
        if e ≠ 0 ∨ n < 0 ∨ n > 4000 then (0, [], 0, 3) else if ((c :: r).length : Int) < 1 + m + 4 + n then (0, [], 0, 2) else
        if four (crcMore 0 ((c :: r).take (1 + m.toNat) ++ ((c :: r).drop (1 + m.toNat + 4)).take n.toNat)) = ((c :: r).drop (1 + m.toNat)).take 4 then (c, ((c :: r).drop (1 + m.toNat + 4)).take n.toNat, 1 + m + 4 + n, 0) else (0, [], 0, 3)) := by
      by_cases h1 : e = 2 ∧ (c :: r).length ≤ 2
      · rw [if_pos h1]
        refine Ev.step (f := fun _ => some (0, [], 0, 2)) (fun k => ?_) (Ev.now _)
        simp only [frame_Open.j0]
        rw [if_pos (by simpa using h1)]
      rw [if_neg h1]
      have hd : decide (e = 2 ∧ (c :: r).length ≤ 2) = false := decide_eq_false h1
      rw [hd]
      by_cases h2 : e ≠ 0 ∨ n < 0 ∨ n > 4000
      · rw [if_pos h2]
        refine Ev.step (f := fun _ => some (0, [], 0, 3)) (fun k => ?_) (Ev.now _)
        simp only [frame_Open.j0]
        rw [if_neg (by simp)]
        by_cases h3 : e = 0
        · rw [if_pos h3]
          by_cases h4 : n < 0
          · rw [if_pos h4]
          · rw [if_neg h4, if_pos (by omega)]
        · rw [if_neg h3]
      rw [if_neg h2]
      have he : e = 0 := by omega
      obtain ⟨a, rfl⟩ := Int.eq_ofNat_of_zero_le (show 0 ≤ n by omega)
      have hok' := hok he
      obtain ⟨j, rfl⟩ := Int.eq_ofNat_of_zero_le (show 0 ≤ m by omega)
      have w1 : wrap64 (1 + (j : Int)) = 1 + (j : Int) := wrap64_eq (by omega) (by omega)
      have w2 : wrap64 (1 + (j : Int) + 4) = 1 + (j : Int) + 4 := wrap64_eq (by omega) (by omega)
      have w3 : wrap64 (1 + (j : Int) + 4 + (a : Int)) = 1 + (j : Int) + 4 + (a : Int) := wrap64_eq (by omega) (by omega)
      by_cases h5 : ((c :: r).length : Int) < 1 + (j : Int) + 4 + (a : Int)
      · rw [if_pos h5]
        refine Ev.step (f := fun _ => some (0, [], 0, 2)) (fun k => ?_) (Ev.now _)
        simp only [frame_Open.j0]
        rw [if_neg (by simp), if_pos he, if_neg (by omega), if_neg (by omega), w1, w2, w3, if_pos h5]
      rw [if_neg h5]
      refine Ev.step (fun k => by simp only [frame_Open.j0]; rw [if_neg (by simp), if_pos he, if_neg (by omega), if_neg (by omega), w1, w2, w3, if_neg h5, if_pos (by omega), if_pos (by omega), if_pos (by omega), if_pos (by omega), if_pos (by omega)]) ?_
      have t1 : (1 + (j : Int)).toNat = 1 + j := by omega
      have t2 : (1 + (j : Int) + 4).toNat = 1 + j + 4 := by omega
      have t3 : (1 + (j : Int) + 4 + (a : Int)).toNat = 1 + j + 4 + a := by omega
      rw [t1, t2, t3]
      have p1 : ((c :: r).take (1 + j + 4 + a)).drop (1 + j + 4) = ((c :: r).drop (1 + j + 4)).take a := by rw [List.drop_take]; congr 1; omega
      have p2 : ((c :: r).take (1 + j + 4)).drop (1 + j) = ((c :: r).drop (1 + j)).take 4 := by rw [List.drop_take]; congr 1; omega
      rw [p1, p2]
      refine Ev.bind (Sum_ev _ (hb.take _) (Nat.le_trans (List.length_take_le ..) (by omega))) (Ev.bind (More_ev _ (crcMore_lt _ _) _ ((hb.drop _).take _) ?_) ?_)
      · exact Nat.le_trans (List.length_take_le ..) (by omega)
      rw [crcMore_append 0 _ _ (by omega) (hb.take _)]
      simp only [Four_ev, Option.bind_some, Int.toNat_natCast]
      refine Ev.congr (fun k => by rw [if_pos (by omega), if_pos (by omega)]) ?_
      by_cases h6 : four (crcMore 0 ((c :: r).take (1 + j) ++ ((c :: r).drop (1 + j + 4)).take a)) = ((c :: r).drop (1 + j)).take 4
      · rw [if_pos h6]
        have hcl : (((c :: r).drop (1 + j + 4)).take a).length ≤ a := List.length_take_le ..
        refine Ev.congr (fun k => by rw [if_pos (by rw [h6]), if_pos (by omega), if_pos (by simp only [List.length_nil]; omega), hrd, wrap64_eq (n := c) (by omega) (by omega), List.nil_append]) (Ev.now _)
      · rw [if_neg h6]
        refine Ev.congr (fun k => if_neg (fun h7 => h6 (strOfNums_inj (four_bytes _) ((hb.drop _).take _) h7))) (Ev.now _)
    refine Ev.congr (fun k => ?_) key
    by_cases h1 : e = 2
    · rw [if_pos h1]; congr 1; simp [h1]; omega
    · rw [if_neg h1]; congr 1; simp [h1]

theorem All_loop (l rest : List Int) (hl : l.length ≤ 4000000000) (hr : Bytes rest) (hre : rest = [] ∨ (openF rest).2.2.2 ≠ 0) (fs : List (Int × List Int)) :
    ∀ (pre : List Int) (acc : List S38), l = pre ++ (flat fs ++ rest) → Bytes pre → (∀ f ∈ fs, Valid f) → acc.length + fs.length ≤ 4000000000 →
      Ev (fun k => frame_All.l0 k l acc (pre.length : Int)) (acc ++ fs.map (fun f => (⟨f.1, f.2⟩ : S38)), ((pre ++ flat fs).length : Int)) := by
  induction fs with
  | nil =>
    intro pre acc hl2 hp hv ha
    rw [flat_nil, List.nil_append] at hl2
    rw [List.map_nil, List.append_nil, flat_nil, List.append_nil]
    have hlen : l.length = pre.length + rest.length := by rw [hl2, List.length_append]
    by_cases h0 : rest = []
    · subst h0
      simp only [List.length_nil] at hlen
      refine Ev.step (f := fun _ => some (acc, (pre.length : Int))) (fun k => ?_) (Ev.now _)
      simp only [frame_All.l0]
      rw [if_neg (by omega)]
    · have hne := hre.resolve_left h0
      have hrl : 0 < rest.length := List.length_pos_iff.2 h0
      have hd : l.drop pre.length = rest := by rw [hl2, List.drop_left]
      refine Ev.step (fun k => by simp only [frame_All.l0]; rw [if_pos (by omega), if_pos (by omega), if_pos (by omega), Int.toNat_natCast, hd]) ?_
      refine Ev.bind (Open_ev rest hr (by omega)) ?_
      exact Ev.congr (fun k => if_neg hne) (Ev.now _)
  | cons f fs ih =>
    intro pre acc hl2 hp hv ha
    have hf := hv f (List.mem_cons_self ..)
    have hf6 := frameF_pos f.1 f.2
    rw [flat_cons] at hl2 ⊢
    have hlen : l.length = pre.length + ((frameF f.1 f.2).length + ((flat fs).length + rest.length)) := by rw [hl2, List.length_append, List.length_append, List.length_append]; omega
    have hfb : Bytes (frameF f.1 f.2) := frameF_bytes ⟨by have := hf.1; omega, by have := hf.2.1; omega⟩ hf.2.2.2
    have hfs : ∀ g ∈ fs, Valid g := fun g hg => hv g (List.mem_cons_of_mem _ hg)
    have hd : l.drop pre.length = frameF f.1 f.2 ++ (flat fs ++ rest) := by rw [hl2, List.drop_left, List.append_assoc]
    have key := ih (pre ++ frameF f.1 f.2) (acc ++ [⟨f.1, f.2⟩]) (by rw [hl2]; simp [List.append_assoc]) (hp.append hfb) hfs (by simp only [List.length_append, List.length_cons, List.length_nil] at ha ⊢; omega)
    refine Ev.step (fun k => by simp only [frame_All.l0]; rw [if_pos (by omega), if_pos (by omega), if_pos (by omega), Int.toNat_natCast, hd]) ?_
    refine Ev.bind (Open_ev _ (hfb.append ((flat_bytes hfs).append hr)) (by rw [List.length_append, List.length_append]; omega)) ?_
    rw [open_frame ⟨hf.1, hf.2.1⟩ hf.2.2.1]
    simp only [if_true]
    simp only [List.length_cons] at ha
    refine Ev.congr (fun k => by rw [if_pos (by omega), wrap64_eq (by omega) (by omega)]) ?_
    have e1 : (pre.length : Int) + ((frameF f.1 f.2).length : Int) = ((pre ++ frameF f.1 f.2).length : Int) := by rw [List.length_append]; omega
    rw [e1]
    simpa [List.append_assoc] using key
/-- Frames one behind the other, and behind them nothing or what is none. -/
theorem All_ev (fs : List (Int × List Int)) (rest : List Int) (hv : ∀ f ∈ fs, Valid f) (hr : Bytes rest) (hre : rest = [] ∨ (openF rest).2.2.2 ≠ 0) (hl : (flat fs ++ rest).length ≤ 4000000000) :
    Ev (fun k => frame_All.f k (flat fs ++ rest)) (fs.map (fun f => (⟨f.1, f.2⟩ : S38)), ((flat fs).length : Int)) := by
  have hc : fs.length ≤ (flat fs).length := by
    clear hl hre
    induction fs with
    | nil => simp
    | cons f fs ih =>
      have := ih (fun g hg => hv g (List.mem_cons_of_mem _ hg))
      have h6 := frameF_pos f.1 f.2
      rw [flat_cons, List.length_append, List.length_cons]
      omega
  rw [List.length_append] at hl
  exact All_loop _ rest (by rw [List.length_append]; exact hl) hr hre fs [] [] rfl Bytes.nil hv (by simp only [List.length_nil]; omega)

theorem begun_ev : Ev (fun k => donatuslaw16_begun.f k) true := Ev.of (fun k => donatuslaw16_begun.mono k) (k := 60) (by decide +kernel)
def ins (n : Nat) : List (Int × List Int) := (List.range n).map fun i => ((1 + i : Nat), [(i : Int)])
theorem ins_succ (n : Nat) : ins (n + 1) = ins n ++ [(((1 + n : Nat) : Int), [(n : Int)])] := by unfold ins; rw [List.range_succ, List.map_append]; rfl
theorem ins_valid {n : Nat} (h : n ≤ 50) : ∀ f ∈ ins n, Valid f := by
  intro f hf
  simp only [ins, List.mem_map, List.mem_range] at hf
  obtain ⟨i, hi, rfl⟩ := hf
  refine ⟨by simp only; omega, by simp only; omega, by simp, ?_⟩
  exact Bytes.cons (by omega) Bytes.nil
theorem one_len (i : Nat) : (frameF ((1 + i : Nat) : Int) [(i : Int)]).length = 7 := by rw [frameF_length]; simp [enc_small, zig]
theorem ins_len (n : Nat) : (flat (ins n)).length = 7 * n := by
  induction n with
  | zero => rfl
  | succ n ih => rw [ins_succ, flat_append, List.length_append, ih, flat_cons, flat_nil, List.append_nil]; simp only [one_len]; omega
theorem FrameInside : donatuslaw16_FrameInside.Pure := by
  intro n hn
  have hn := i64_bd hn
  refine Ev.rounds (r := true) ?_
  unfold donatuslaw16_FrameInside.f
  refine Ev.bind begun_ev ?_
  simp only [if_true]
  have loop : ∀ (d i : Nat), n ≤ 50 → n - i = d → 1 ≤ n → Ev (fun k => donatuslaw16_FrameInside.l0 k n (flat (ins i)) (i : Int)) true := by
    intro d
    induction d with
    | zero =>
      intro i h50 hd h1
      refine Ev.step (fun k => by simp only [donatuslaw16_FrameInside.l0]; rw [if_neg (by omega)]) ?_
      have hi : n = (i : Int) := by omega
      have hil := ins_len i
      have hv := ins_valid (n := i) (by omega)
      have hall := All_ev (ins i) [] hv Bytes.nil (.inl rfl) (by rw [List.append_nil, hil]; omega)
      rw [List.append_nil] at hall
      have hbb := flat_bytes hv
      have hs : sealF 9 (flat (ins i)) = frameF 9 (flat (ins i)) := by unfold sealF; rw [if_neg (by omega)]
      have hseal := Seal_ev 9 (flat (ins i)) (by omega) hbb (by omega)
      rw [hs] at hseal
      have hv9 : ∀ f ∈ [((9 : Int), flat (ins i))], Valid f := by
        intro f hf
        simp only [List.mem_cons, List.not_mem_nil, or_false] at hf
        subst hf
        exact ⟨by simp only; omega, by simp only; omega, by simp only; omega, hbb⟩
      have hfl := frameF_length 9 (flat (ins i))
      have hz := enc_len_small (n := (flat (ins i)).length) (by omega)
      have hall9 := All_ev [((9 : Int), flat (ins i))] [] hv9 Bytes.nil (.inl rfl) (by rw [List.append_nil, flat_cons, flat_nil, List.append_nil]; simp only; omega)
      rw [List.append_nil, flat_cons, flat_nil, List.append_nil] at hall9
      refine Ev.bind hall (Ev.bind hseal (Ev.bind hall9 ?_))
      simp only [List.length_map, List.map_cons, List.map_nil]
      have hlen : (ins i).length = i := by simp [ins]
      refine Ev.congr (fun k => by rw [if_pos (by rw [hlen, hi]), if_pos trivial, if_pos (by simp), if_pos (by simp), if_pos (by rfl), if_pos (by rfl)]) ?_
      refine Ev.bind hseal ?_
      simp only [beq_self_eq_true]
      exact Ev.now _
    | succ d ih =>
      intro i h50 hd h1
      refine Ev.step (fun k => by simp only [donatuslaw16_FrameInside.l0]; rw [if_pos (by omega), wrap64_eq (n := 1 + (i : Int)) (by omega) (by omega), wrap64_eq (n := (i : Int) + 1) (by omega) (by omega), show (i : Int) % 256 = (i : Int) by omega]) ?_
      have hk : (1 + (i : Int)) = ((1 + i : Nat) : Int) := by omega
      rw [hk]
      have hs : sealF ((1 + i : Nat) : Int) [(i : Int)] = frameF ((1 + i : Nat) : Int) [(i : Int)] := by unfold sealF; rw [if_neg (by simp; omega)]
      have hseal := Seal_ev ((1 + i : Nat) : Int) [(i : Int)] (by omega) (Bytes.cons (by omega) Bytes.nil) (by simp)
      rw [hs] at hseal
      refine Ev.bind hseal ?_
      have hil := ins_len i
      have h7 := one_len i
      refine Ev.congr (fun k => if_pos (by omega)) ?_
      have e : flat (ins i) ++ frameF ((1 + i : Nat) : Int) [(i : Int)] = flat (ins (i + 1)) := by rw [ins_succ, flat_append, flat_cons, flat_nil, List.append_nil]
      rw [e]
      exact ih (i + 1) h50 (by omega) h1
  refine Ev.congr (f := fun k => donatuslaw16_FrameInside.j0 k n (decide (n < 1 ∨ n > 50))) (fun k => ?_) ?_
  · by_cases h : n < 1
    · rw [if_pos h]; congr 1; simp [h]
    · rw [if_neg h]; congr 1; simp [h]
  · by_cases h : n < 1 ∨ n > 50
    · refine Ev.step (f := fun _ => some true) (fun k => ?_) (Ev.now _)
      simp only [donatuslaw16_FrameInside.j0]
      rw [if_pos (by simpa using h)]
    · exact Ev.step (f := fun k => donatuslaw16_FrameInside.l0 k n (flat (ins 0)) ((0 : Nat) : Int)) (fun k => by simp only [donatuslaw16_FrameInside.j0]; rw [if_neg (by simpa using h)]; rfl) (loop n.toNat 0 (by omega) (by omega) (by omega))

end Go.Proofs.Ytjnhlbelpflobab.Pure
