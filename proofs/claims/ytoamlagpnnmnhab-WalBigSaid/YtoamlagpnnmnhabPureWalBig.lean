/- WalBig: a snapshot of any size up to 200,000 bytes goes to bytes and back; a greater one does not: for every number. -/
import Derived.Test.YtoamlagpnnmnhabPWalBigx9
import Derived.Test.YtoamlagpnnmnhabWal
namespace Go.Proofs.Ytoamlagpnnmnhab.Pure
open Go.RowKit Go.Proofs.Ytoamlagpnnmnhab.PWalBig Go.Proofs.YtoamlagpnnmnhabW.PrintWords Go.Proofs.YtoamlagpnnmnhabW.PrintLast Go.Proofs.YtoamlagpnnmnhabW.PrintMore Go.Proofs.Ytoamlagpnnmnhab.Spec

theorem Put_loop (u : Nat) : ∀ (l : List Int), l.length + (enc u).length ≤ 140737488355328 → Ev (fun k => num_Put.l0 k l (u : Int)) (l ++ enc u) := by
  induction u using Nat.strongRecOn with
  | _ u ih =>
    intro l hl
    have hp := enc_pos u
    by_cases h : u < 128
    · refine Ev.step (f := fun _ => some (l ++ enc u)) (fun k => ?_) (Ev.now _)
      simp only [num_Put.l0]
      rw [if_neg (by omega), if_pos (by omega), enc_small h, show (u : Int) % 256 = (u : Int) from by omega]
    · refine Ev.step (f := fun k => num_Put.l0 k (l ++ [((u % 128 + 128 : Nat) : Int)]) ((u / 128 : Nat) : Int)) (fun k => ?_) ?_
      · simp only [num_Put.l0]
        rw [if_pos (by omega), if_pos (by omega), or128 (by omega) (by omega)]
        congr 2
        · congr 1
          omega
      · have e : l ++ enc u = (l ++ [((u % 128 + 128 : Nat) : Int)]) ++ enc (u / 128) := by rw [enc_step (by omega)]; simp
        rw [e]
        refine ih (u / 128) (by omega) _ ?_
        rw [enc_step (u := u) (by omega), List.length_cons] at hl
        simp only [List.length_append, List.length_cons, List.length_nil]
        omega
theorem Put_ev (l : List Int) {a : Int} (h0 : -9223372036854775808 ≤ a) (h1 : a ≤ 9223372036854775807) (hl : l.length + 10 ≤ 140737488355328) : Ev (fun k => num_Put.f k l a) (l ++ enc (zig a)) := by
  have hz := enc_len10 (zig_lt h0 h1)
  have key : Ev (fun k => num_Put.j0 k l ((zig a : Nat) : Int)) (l ++ enc (zig a)) := Ev.step (fun k => rfl) (Put_loop _ _ (by omega))
  refine Ev.congr (fun k => ?_) key
  unfold num_Put.f
  by_cases h : a < 0
  · rw [if_pos h, wrap_u64, wrap_u64, not_u64 (by omega) (by omega)]
    congr 1
    unfold zig
    rw [if_pos h]
    omega
  · rw [if_neg h, wrap_u64, wrap_u64]
    congr 1
    unfold zig
    rw [if_neg h]
    omega

theorem Get_loop (l : List Int) (hb : ∀ x ∈ l, 0 ≤ x ∧ x < 256) (r : List Int) : ∀ (i u : Nat), l.drop i = r → u < 2 ^ (7 * i) → i ≤ 9 → Ev (fun k => num_Get.l0 k (u : Int) l (l.length : Int) (i : Int)) (numGet i u r) := by
  induction r with
  | nil =>
    intro i u hd hu hi
    have hge : l.length ≤ i := by simpa using List.drop_eq_nil_iff.1 hd
    refine Ev.step (f := fun _ => some (0, 0, 2)) (fun k => ?_) (Ev.now _)
    simp only [num_Get.l0]
    rw [if_neg (by omega)]
  | cons c r ih =>
    intro i u hd hu hi
    obtain ⟨hrd, hlt, hd'⟩ := rd_cons l i c r hd
    have hc : 0 ≤ c ∧ c < 256 := hb c (List.mem_of_mem_drop (by rw [hd]; exact List.mem_cons_self ..))
    have hpw : (2 : Nat) ^ (7 * i) ≤ 2 ^ 63 := Nat.pow_le_pow_right (by decide) (by omega)
    have hw : wrap64 (7 * (i : Int)) = ((7 * i : Nat) : Int) := by rw [wrap64_eq (by omega) (by omega)]; omega
    have hsmall : ¬(i = 9 ∧ c > 1) → (c % 128) * 2 ^ (7 * i) < 2 ^ 64 := by
      intro h
      have : ((c % 128).toNat) * 2 ^ (7 * i) < 2 ^ 64 := by
        rcases Nat.lt_or_ge i 9 with h9 | h9
        · have h5 : (2 : Nat) ^ (7 * i) ≤ 2 ^ 56 := Nat.pow_le_pow_right (by decide) (by omega)
          have := Nat.mul_le_mul (show (c % 128).toNat ≤ 127 by omega) h5
          omega
        · have h10 : i = 9 := by omega
          subst h10
          have := Nat.mul_le_mul (show (c % 128).toNat ≤ 1 by omega) (Nat.le_refl (2 ^ (7 * 9)))
          omega
      have ec : (((c % 128).toNat : Nat) : Int) = c % 128 := by omega
      have e : ((c % 128) * 2 ^ (7 * i) : Int) = (((c % 128).toNat * 2 ^ (7 * i) : Nat) : Int) := by
        rw [Int.natCast_mul, ec]
        simp
      rw [e]
      exact_mod_cast this
    have hacc : ¬(i = 9 ∧ c > 1) → Go.bits .or .u64 (u : Int) (shl .u64 (IntKind.u64.wrap (Go.bits .and .u8 c 127)) (wrap64 (7 * (i : Int)))) = ((u + (c % 128).toNat * 2 ^ (7 * i) : Nat) : Int) := by
      intro h
      rw [and127 hc.1 hc.2, wrap_u64, show c % 128 % 18446744073709551616 = c % 128 by omega, hw, or_join (7 * i) (by omega) (by exact_mod_cast hu) (by omega) (by omega) (hsmall h)]
      have ec : (((c % 128).toNat : Nat) : Int) = c % 128 := by omega
      rw [Int.natCast_add, Int.natCast_mul, ec]
      simp
    have hlim : ¬(i = 9 ∧ c > 1) → u + (c % 128).toNat * 2 ^ (7 * i) < 18446744073709551616 := by
      intro h
      rcases Nat.lt_or_ge i 9 with h9 | h9
      · have h5 : (2 : Nat) ^ (7 * i) ≤ 2 ^ 56 := Nat.pow_le_pow_right (by decide) (by omega)
        have := Nat.mul_le_mul (show (c % 128).toNat ≤ 127 by omega) h5
        omega
      · have h10 : i = 9 := by omega
        subst h10
        have := Nat.mul_le_mul (show (c % 128).toNat ≤ 1 by omega) (Nat.le_refl (2 ^ (7 * 9)))
        omega
    refine Ev.step (f := fun k => num_Get.j1 k (u : Int) (i : Int) c l (l.length : Int) (i : Int) (decide (i = 9 ∧ c > 1))) (fun k => ?_) ?_
    · simp only [num_Get.l0]
      rw [if_pos (by omega), if_pos (by omega), if_pos (by omega), hrd]
      by_cases h9 : i = 9
      · rw [if_pos (by omega)]
        congr 1
        simp [h9]
      · rw [if_neg (by omega)]
        congr 1
        simp [h9]
    · rw [numGet]
      by_cases h1 : i = 9 ∧ c > 1
      · rw [if_pos h1]
        refine Ev.step (f := fun _ => some (0, 0, 1)) (fun k => ?_) (Ev.now _)
        simp only [num_Get.j1]
        rw [if_pos (by simpa using h1)]
      · rw [if_neg h1]
        have hacc' := hacc h1
        have hlim' := hlim h1
        by_cases h2 : c > 127
        · rw [if_pos h2]
          have e2 : 2 ^ (7 * (i + 1)) = 128 * 2 ^ (7 * i) := by rw [Nat.mul_add, Nat.pow_add, Nat.mul_comm]
          have hu' : u + (c % 128).toNat * 2 ^ (7 * i) < 2 ^ (7 * (i + 1)) := by
            rw [e2]
            have : (c % 128).toNat * 2 ^ (7 * i) ≤ 127 * 2 ^ (7 * i) := Nat.mul_le_mul_right _ (by omega)
            omega
          refine Ev.step (f := fun k => num_Get.l0 k ((u + (c % 128).toNat * 2 ^ (7 * i) : Nat) : Int) l (l.length : Int) ((i + 1 : Nat) : Int)) (fun k => ?_) (ih (i + 1) _ hd' hu' (by omega))
          simp only [num_Get.j1]
          rw [if_neg (by simpa using h1), if_pos (by rw [hw]; omega), if_pos h2, hacc', wrap64_eq (by omega) (by omega)]
          rfl
        · rw [if_neg h2]
          have hcm : (c % 128).toNat = c.toNat := by omega
          rw [hcm] at hacc' hlim'
          have fin : Ev (fun k => num_Get.j2 k ((u + c.toNat * 2 ^ (7 * i) : Nat) : Int) (i : Int) (decide (0 < i ∧ c = 0))) (if 0 < i ∧ c = 0 then (0, 0, 1) else (zag (u + c.toNat * 2 ^ (7 * i)), (i : Int) + 1, 0)) := by
            by_cases h3 : 0 < i ∧ c = 0
            · rw [if_pos h3]
              refine Ev.step (f := fun _ => some (0, 0, 1)) (fun k => ?_) (Ev.now _)
              simp only [num_Get.j2]
              rw [if_pos (by simpa using h3)]
            · rw [if_neg h3]
              refine Ev.step (f := fun _ => some (zag (u + c.toNat * 2 ^ (7 * i)), (i : Int) + 1, 0)) (fun k => ?_) (Ev.now _)
              simp only [num_Get.j2]
              rw [if_neg (by simpa using h3), and1_u64 (by omega) (by omega), wrap64_eq (n := (i : Int) + 1) (by omega) (by omega)]
              generalize u + c.toNat * 2 ^ (7 * i) = m at hlim'
              unfold zag
              by_cases h4 : m % 2 = 1
              · rw [if_pos (by omega), if_pos h4, wrap64_eq (by omega) (by omega), not_i64 (by omega) (by omega)]
                congr 3
              · rw [if_neg (by omega), if_neg h4, wrap64_eq (by omega) (by omega)]
                congr 3
          refine Ev.step (fun k => ?_) fin
          simp only [num_Get.j1]
          rw [if_neg (by simpa using h1), if_pos (by rw [hw]; omega), if_neg h2, hacc']
          by_cases h3 : 0 < i
          · rw [if_pos (by omega)]
            congr 1
            simp [h3, Bool.beq_eq_decide_eq]
          · rw [if_neg (by omega)]
            congr 1
            simp [h3]
theorem Get_ev (l : List Int) (hb : ∀ x ∈ l, 0 ≤ x ∧ x < 256) : Ev (fun k => num_Get.f k l) (numGet 0 0 l) :=
  Get_loop l hb l 0 0 rfl (by simp) (by omega)

theorem GetText_ev (l : List Int) (hb : ∀ x ∈ l, 0 ≤ x ∧ x < 256) (hl : l.length ≤ 140737488355328) : Ev (fun k => num_GetText.f k l) (getText l) := by
  unfold num_GetText.f
  refine Ev.bind (Get_ev l hb) ?_
  unfold getText
  by_cases h : (numGet 0 0 l).2.2 = 0
  · have hok := numGet_ok l hb h
    generalize numGet 0 0 l = q at *
    obtain ⟨n, m, e⟩ := q
    simp only at *
    subst h
    have key : Ev (fun k => num_GetText.j0 k l n m (decide (n < 0 ∨ n > 1048576))) (if n < 0 ∨ n > 1048576 then ((⟨#[]⟩ : ByteArray), 0, 1)
        else if n > (l.length : Int) - m then (⟨#[]⟩, 0, 2) else (strOfNums ((l.drop m.toNat).take n.toNat), m + n, 0)) := by
      by_cases h1 : n < 0 ∨ n > 1048576
      · rw [if_pos h1]
        refine Ev.step (f := fun _ => some ((⟨#[]⟩ : ByteArray), 0, 1)) (fun k => ?_) (Ev.now _)
        simp only [num_GetText.j0]
        rw [if_pos (by simpa using h1)]
      · rw [if_neg h1]
        by_cases h2 : n > (l.length : Int) - m
        · rw [if_pos h2]
          refine Ev.step (f := fun _ => some ((⟨#[]⟩ : ByteArray), 0, 2)) (fun k => ?_) (Ev.now _)
          simp only [num_GetText.j0]
          rw [if_neg (by simpa using h1), if_pos (by rw [wrap64_eq (by omega) (by omega)]; exact h2)]
        · rw [if_neg h2]
          refine Ev.step (f := fun _ => some (strOfNums ((l.drop m.toNat).take n.toNat), m + n, 0)) (fun k => ?_) (Ev.now _)
          simp only [num_GetText.j0]
          have hw : wrap64 (m + n) = m + n := wrap64_eq (by omega) (by omega)
          rw [if_neg (by simpa using h1), if_neg (by rw [wrap64_eq (by omega) (by omega)]; exact h2), if_pos (by omega), hw, if_pos (by omega), if_pos (by omega)]
          rw [List.drop_take, show (m + n).toNat - m.toNat = n.toNat by omega]
    simp only [if_true]
    refine Ev.congr (fun k => ?_) key
    by_cases h1 : n < 0
    · rw [if_pos h1]; congr 1; simp [h1]
    · rw [if_neg h1]; congr 1; simp [h1]
  · simp only [if_neg h]
    exact Ev.now _

theorem PutText_ev (l : List Int) (s : ByteArray) (hl : l.length + 10 + s.size < 140737488355328) : Ev (fun k => num_PutText.f k l s) (l ++ enc (zig (s.size : Int)) ++ bytesOf s) := by
  unfold num_PutText.f
  have hz := enc_len10 (zig_lt (n := (s.size : Int)) (by omega) (by omega))
  refine Ev.bind (Put_ev l (a := (s.size : Int)) (by omega) (by omega) (by omega)) ?_
  refine Ev.congr (fun k => if_pos ?_) (Ev.now _)
  rw [List.length_append]
  omega

theorem More_bits (l : List Int) (i : Int) (r : Int) (d : Nat) : ∀ (x : Nat) (j : Int), x < 4294967296 → 8 - j = d → 0 ≤ j → Ev (fun k => crc_More.l0 k ((crcSteps d x : Nat) : Int) l (l.length : Int) (wrap64 (i + 1))) r →
    Ev (fun k => crc_More.l1 k (x : Int) l (l.length : Int) i j) r := by
  induction d with
  | zero =>
    intro x j hx hd h0 h
    refine Ev.step (fun k => ?_) h
    simp only [crc_More.l1]
    rw [if_neg (by omega)]
    rfl
  | succ d ih =>
    intro x j hx hd h0 h
    refine Ev.step (fun k => ?_) (ih (crcStep x) (j + 1) (crcStep_lt hx) (by omega) (by omega) h)
    simp only [crc_More.l1]
    rw [if_pos (by omega), crc_bits hx, wrap64_eq (n := j + 1) (by omega) (by omega)]
theorem More_loop (l : List Int) (hb : Bytes l) (hl : l.length ≤ 140737488355328) (r : List Int) : ∀ (x : Nat) (i : Nat), x < 4294967296 → l.drop i = r → i ≤ l.length → Ev (fun k => crc_More.l0 k (x : Int) l (l.length : Int) (i : Int)) ((4294967295 - crcRun x r : Nat) : Int) := by
  induction r with
  | nil =>
    intro x i hx hd hi
    have hge : l.length ≤ i := by simpa using List.drop_eq_nil_iff.1 hd
    refine Ev.step (f := fun _ => some ((4294967295 - crcRun x [] : Nat) : Int)) (fun k => ?_) (Ev.now _)
    simp only [crc_More.l0]
    rw [if_neg (by omega), not_u32 (by omega) (by omega)]
    congr 1
    simp only [crcRun]
    omega
  | cons c r ih =>
    intro x i hx hd hi
    obtain ⟨hrd, hlt, hd'⟩ := rd_cons l i c r hd
    have hc : 0 ≤ c ∧ c < 256 := hb c (List.mem_of_mem_drop (by rw [hd]; exact List.mem_cons_self ..))
    have hx' : x ^^^ c.toNat < 4294967296 := xor_byte_lt hx hc.2
    have key := ih (crcSteps 8 (x ^^^ c.toNat)) (i + 1) (crcSteps_lt 8 hx') hd' (by omega)
    refine Ev.step (fun k => ?_) (More_bits l (i : Int) ((4294967295 - crcRun x (c :: r) : Nat) : Int) 8 (x ^^^ c.toNat) 0 hx' (by omega) (by omega) ?_)
    · simp only [crc_More.l0]
      rw [if_pos (by omega), if_pos (by omega), if_pos (by omega), hrd, crc_in hx hc]
    · rw [wrap64_eq (n := (i : Int) + 1) (by omega) (by omega)]
      exact key
theorem More_ev (s : Nat) (hs : s < 4294967296) (l : List Int) (hb : Bytes l) (hl : l.length ≤ 140737488355328) : Ev (fun k => crc_More.f k (s : Int) l) ((crcMore s l : Nat) : Int) := by
  have := More_loop l hb hl l (4294967295 - s) 0 (by omega) rfl (by omega)
  refine Ev.congr (fun k => ?_) this
  unfold crc_More.f
  rw [not_u32 (by omega) (by omega)]
  congr 1
  omega
theorem Sum_ev (l : List Int) (hb : Bytes l) (hl : l.length ≤ 140737488355328) : Ev (fun k => crc_Sum.f k l) ((crcMore 0 l : Nat) : Int) := by
  unfold crc_Sum.f
  exact Ev.bind (More_ev 0 (by omega) l hb hl) (Ev.now _)

theorem Four_ev (s : Nat) : num_Four.f (s : Int) = some (four s) := by
  unfold num_Four.f
  rw [four_is]
theorem Seal_ev (kind : Int) (b : List Int) (hk : -9223372036854775808 ≤ kind ∧ kind ≤ 9223372036854775807) (hb : Bytes b) (hl : b.length ≤ 140737488355328) : Ev (fun k => frame_Seal.f k kind b) (sealF kind b) := by
  have key : Ev (fun k => frame_Seal.j0 k kind b (decide (kind < 1 ∨ kind > 255 ∨ b.length > 4000))) (sealF kind b) := by
    unfold sealF
    by_cases h : kind < 1 ∨ kind > 255 ∨ b.length > 4000
    · rw [if_pos h]
      refine Ev.step (f := fun _ => some []) (fun k => ?_) (Ev.now _)
      simp only [frame_Seal.j0]
      rw [if_pos (by simpa using h)]
    · rw [if_neg h]
      refine Ev.step (fun k => by simp only [frame_Seal.j0]; rw [if_neg (by simpa using h)]) ?_
      have hh : [kind % 256] ++ enc (zig (b.length : Int)) = headF kind b.length := by
        unfold headF
        rw [show kind % 256 = kind by omega]
        rfl
      have hz := enc_len_small (n := b.length) (by omega)
      have hhl : (headF kind b.length).length ≤ 3 := by rw [headF_length]; omega
      have hhb : Bytes (headF kind b.length) := headF_bytes (by omega)
      refine Ev.bind (Put_ev [kind % 256] (a := (b.length : Int)) (by omega) (by omega) (by simp)) ?_
      rw [hh]
      refine Ev.bind (Sum_ev _ hhb (by omega)) (Ev.bind (More_ev _ (crcMore_lt _ _) b hb hl) ?_)
      rw [crcMore_append 0 _ _ (by omega) hhb]
      simp only [Four_ev, Option.bind_some]
      refine Ev.congr (fun k => by rw [if_pos (by rw [four_length]; omega), if_pos (by rw [List.length_append, four_length]; omega)]) ?_
      rw [List.append_assoc]
      exact Ev.now _
  refine Ev.congr (fun k => ?_) key
  unfold frame_Seal.f
  by_cases h : kind < 1
  · rw [if_pos h]; congr 1; simp [h]
  · rw [if_neg h]
    by_cases h2 : kind > 255
    · rw [if_pos h2]; congr 1; simp [h2]
    · rw [if_neg h2]; congr 1; simp [h, h2]; omega

theorem Open_ev (l : List Int) (hb : Bytes l) (hl : l.length ≤ 140737488355328 - 1) : Ev (fun k => frame_Open.f k l) (openF l) := by
  unfold frame_Open.f
  cases l with
  | nil => exact Ev.now _
  | cons c r =>
    have hc := hb c (List.mem_cons_self ..)
    have hbr : Bytes r := Bytes.tail hb
    have hrd : rd (c :: r) 0 = c := rfl
    have hlen : ((c :: r).length : Int) = (r.length : Int) + 1 := by simp
    refine Ev.congr (fun k => by rw [if_neg (by omega), if_pos (by omega), hrd]) ?_
    unfold openF
    simp only
    by_cases h0 : c = 0
    · simp only [if_pos h0]; exact Ev.now _
    simp only [if_neg h0]
    refine Ev.congr (fun k => if_pos (by omega)) ?_
    have hd1 : (c :: r).drop 1 = r := rfl
    rw [hd1]
    refine Ev.bind (Get_ev r hbr) ?_
    have hok := numGet_ok r hbr
    have hfail := numGet_fail r hbr
    generalize numGet 0 0 r = q at *
    obtain ⟨n, m, e⟩ := q
    simp only at *
    have key : Ev (fun k => frame_Open.j0 k (c :: r) n m e (decide (e = 2 ∧ (c :: r).length ≤ 2))) (if e = 2 ∧ (c :: r).length ≤ 2 then ((0 : Int), ([] : List Int), (0 : Int), (2 : Int)) else
        if e ≠ 0 ∨ n < 0 ∨ n > 4000 then (0, [], 0, 3) else if ((c :: r).length : Int) < 1 + m + 4 + n then (0, [], 0, 2) else
        if four (crcMore 0 ((c :: r).take (1 + m.toNat) ++ ((c :: r).drop (1 + m.toNat + 4)).take n.toNat)) = ((c :: r).drop (1 + m.toNat)).take 4 then (c, ((c :: r).drop (1 + m.toNat + 4)).take n.toNat, 1 + m + 4 + n, 0) else (0, [], 0, 3)) := by
      by_cases h1 : e = 2 ∧ (c :: r).length ≤ 2
      · rw [if_pos h1]
        refine Ev.step (f := fun _ => some (0, [], 0, 2)) (fun k => ?_) (Ev.now _)
        simp only [frame_Open.j0]
        rw [if_pos (by simpa using h1)]
      rw [if_neg h1]
      have hd : decide (e = 2 ∧ (c :: r).length ≤ 2) = false := decide_eq_false h1
      rw [hd]
      by_cases h2 : e ≠ 0 ∨ n < 0 ∨ n > 4000
      · rw [if_pos h2]
        refine Ev.step (f := fun _ => some (0, [], 0, 3)) (fun k => ?_) (Ev.now _)
        simp only [frame_Open.j0]
        rw [if_neg (by simp)]
        by_cases h3 : e = 0
        · rw [if_pos h3]
          by_cases h4 : n < 0
          · rw [if_pos h4]
          · rw [if_neg h4, if_pos (by omega)]
        · rw [if_neg h3]
      rw [if_neg h2]
      have he : e = 0 := by omega
      obtain ⟨a, rfl⟩ := Int.eq_ofNat_of_zero_le (show 0 ≤ n by omega)
      have hok' := hok he
      obtain ⟨j, rfl⟩ := Int.eq_ofNat_of_zero_le (show 0 ≤ m by omega)
      have w1 : wrap64 (1 + (j : Int)) = 1 + (j : Int) := wrap64_eq (by omega) (by omega)
      have w2 : wrap64 (1 + (j : Int) + 4) = 1 + (j : Int) + 4 := wrap64_eq (by omega) (by omega)
      have w3 : wrap64 (1 + (j : Int) + 4 + (a : Int)) = 1 + (j : Int) + 4 + (a : Int) := wrap64_eq (by omega) (by omega)
      by_cases h5 : ((c :: r).length : Int) < 1 + (j : Int) + 4 + (a : Int)
      · rw [if_pos h5]
        refine Ev.step (f := fun _ => some (0, [], 0, 2)) (fun k => ?_) (Ev.now _)
        simp only [frame_Open.j0]
        rw [if_neg (by simp), if_pos he, if_neg (by omega), if_neg (by omega), w1, w2, w3, if_pos h5]
      rw [if_neg h5]
      refine Ev.step (fun k => by simp only [frame_Open.j0]; rw [if_neg (by simp), if_pos he, if_neg (by omega), if_neg (by omega), w1, w2, w3, if_neg h5, if_pos (by omega), if_pos (by omega), if_pos (by omega), if_pos (by omega), if_pos (by omega)]) ?_
      have t1 : (1 + (j : Int)).toNat = 1 + j := by omega
      have t2 : (1 + (j : Int) + 4).toNat = 1 + j + 4 := by omega
      have t3 : (1 + (j : Int) + 4 + (a : Int)).toNat = 1 + j + 4 + a := by omega
      rw [t1, t2, t3]
      have p1 : ((c :: r).take (1 + j + 4 + a)).drop (1 + j + 4) = ((c :: r).drop (1 + j + 4)).take a := by rw [List.drop_take]; congr 1; omega
      have p2 : ((c :: r).take (1 + j + 4)).drop (1 + j) = ((c :: r).drop (1 + j)).take 4 := by rw [List.drop_take]; congr 1; omega
      rw [p1, p2]
      refine Ev.bind (Sum_ev _ (hb.take _) (Nat.le_trans (List.length_take_le ..) (by omega))) (Ev.bind (More_ev _ (crcMore_lt _ _) _ ((hb.drop _).take _) ?_) ?_)
      · exact Nat.le_trans (List.length_take_le ..) (by omega)
      rw [crcMore_append 0 _ _ (by omega) (hb.take _)]
      simp only [Four_ev, Option.bind_some, Int.toNat_natCast]
      refine Ev.congr (fun k => by rw [if_pos (by omega), if_pos (by omega)]) ?_
      by_cases h6 : four (crcMore 0 ((c :: r).take (1 + j) ++ ((c :: r).drop (1 + j + 4)).take a)) = ((c :: r).drop (1 + j)).take 4
      · rw [if_pos h6]
        have hcl : (((c :: r).drop (1 + j + 4)).take a).length ≤ a := List.length_take_le ..
        refine Ev.congr (fun k => by rw [if_pos (by rw [h6]), if_pos (by omega), if_pos (by simp only [List.length_nil]; omega), hrd, wrap64_eq (n := c) (by omega) (by omega), List.nil_append]) (Ev.now _)
      · rw [if_neg h6]
        refine Ev.congr (fun k => if_neg (fun h7 => h6 (strOfNums_inj (four_bytes _) ((hb.drop _).take _) h7))) (Ev.now _)
    refine Ev.congr (fun k => ?_) key
    by_cases h1 : e = 2
    · rw [if_pos h1]; congr 1; simp [h1]; omega
    · rw [if_neg h1]; congr 1; simp [h1]

theorem In_loop (lo hi : Int) (l r : List Int) (hl : l.length ≤ 140737488355328) : ∀ i : Nat, l.drop i = r → i ≤ l.length → Ev (fun k => wal_in.l0 k lo hi l (l.length : Int) (i : Int)) (inF lo hi r) := by
  induction r with
  | nil =>
    intro i hd hi'
    have hge : l.length ≤ i := by simpa using List.drop_eq_nil_iff.1 hd
    refine Ev.step (f := fun _ => some true) (fun k => ?_) (Ev.now _)
    simp only [wal_in.l0]
    rw [if_neg (by omega)]
  | cons c r ih =>
    intro i hd hi'
    obtain ⟨hrd, hlt, hd'⟩ := rd_cons l i c r hd
    unfold inF
    by_cases h1 : c < lo
    · rw [if_pos h1]
      refine Ev.step (f := fun _ => some false) (fun k => ?_) (Ev.now _)
      simp only [wal_in.l0]
      rw [if_pos (by omega), if_pos (by omega), if_pos (by omega), hrd, if_pos h1]
    rw [if_neg h1]
    by_cases h2 : c > hi
    · rw [if_pos h2]
      refine Ev.step (f := fun _ => some false) (fun k => ?_) (Ev.now _)
      simp only [wal_in.l0]
      rw [if_pos (by omega), if_pos (by omega), if_pos (by omega), hrd, if_neg h1, if_pos h2]
    rw [if_neg h2]
    refine Ev.step (fun k => ?_) (ih (i + 1) hd' (by omega))
    simp only [wal_in.l0]
    rw [if_pos (by omega), if_pos (by omega), if_pos (by omega), hrd, if_neg h1, if_neg h2, wrap64_eq (by omega) (by omega)]
    rfl
theorem In_ev (lo hi : Int) (l : List Int) (hl : l.length ≤ 140737488355328) : Ev (fun k => wal_in.f k lo hi l) (inF lo hi l) := In_loop lo hi l l hl 0 rfl (by omega)

theorem rdNum_ev (l : List Int) (hb : Bytes l) (bad : Bool) : Ev (fun k => rdNum k l bad) (rdN l bad) := by
  unfold rdNum rdN
  refine Ev.bind (Get_ev l hb) ?_
  have hok := numGet_ok l hb
  by_cases h : (numGet 0 0 l).2.2 = 0
  · have := hok h
    simp only [if_pos h]
    exact Ev.congr (fun k => if_pos (by omega)) (Ev.now _)
  · simp only [if_neg h]
    exact Ev.now _
theorem getText_len (l : List Int) (hb : Bytes l) (h : (getText l).2.2 = 0) : 0 ≤ (getText l).2.1 ∧ (getText l).2.1 ≤ l.length := by
  unfold getText at h ⊢
  by_cases h1 : (numGet 0 0 l).2.2 = 0
  · rw [if_pos h1] at h ⊢
    have hk := numGet_ok l hb h1
    generalize numGet 0 0 l = q at *
    obtain ⟨n, m, e⟩ := q
    simp only at *
    by_cases h2 : n < 0 ∨ n > 1048576
    · rw [if_pos h2] at h; simp at h
    rw [if_neg h2] at h ⊢
    by_cases h3 : n > (l.length : Int) - m
    · rw [if_pos h3] at h; simp at h
    rw [if_neg h3]
    simp only
    omega
  · rw [if_neg h1] at h
    exact absurd h h1
theorem rdText_ev (l : List Int) (hb : Bytes l) (hl : l.length ≤ 140737488355328) (bad : Bool) : Ev (fun k => rdText k l bad) (rdT l bad) := by
  unfold rdText rdT
  refine Ev.bind (GetText_ev l hb hl) ?_
  have hok := getText_len l hb
  by_cases h : (getText l).2.2 = 0
  · have := hok h
    simp only [if_pos h]
    exact Ev.congr (fun k => if_pos (by omega)) (Ev.now _)
  · simp only [if_neg h]
    exact Ev.now _

theorem may_ev (x y : Int) (c d : ByteArray) : Ev (fun k => wal_may.f k x y c d) (mayS x y c d) := by
  unfold wal_may.f mayS
  refine Ev.bind (In_ev 0 1099511627776 [x, y] (by simp)) ?_
  by_cases h1 : inF 0 1099511627776 [x, y] = true
  · rw [h1, Bool.true_and, if_pos rfl]
    by_cases h2 : (c.size : Int) ≤ 50
    · refine Ev.congr (fun k => if_pos h2) ?_
      rw [decide_eq_true h2, Bool.true_and]
      exact Ev.now _
    · refine Ev.congr (fun k => if_neg h2) ?_
      rw [decide_eq_false h2, Bool.false_and]
      exact Ev.now _
  · rw [Bool.eq_false_iff.2 h1, Bool.false_and]
    exact Ev.congr (fun k => if_neg (by simp)) (Ev.now _)
theorem PutSnap_loop (n : Nat) : ∀ (s : ByteArray) (x : List Int), s.size = n → s.size ≤ 200000 → x.length + 4100 * s.size + 4100 ≤ 140737488355328 → Ev (fun k => wal_PutSnap.l0 k x s) (x ++ partsF (bytesOf s)) := by
  induction n using Nat.strongRecOn with
  | _ n ih =>
    intro s x hn hs hx
    by_cases h0 : s.toList = []
    · refine Ev.step (f := fun _ => some x) (fun k => ?_) ?_
      · simp only [wal_PutSnap.l0]
        rw [if_pos h0]
      · rw [toList_nil h0, bytesOf_empty, partsF_nil, List.append_nil]
        exact Ev.now _
    · have hpos : 0 < s.size := by
        rcases Nat.eq_zero_or_pos s.size with h | h
        · exact absurd (by rw [toList_inj (a := s) (b := ⟨#[]⟩) (by rw [size_zero h])]; exact ByteArray.toList_eq _) h0
        · exact h
      have hmn : mn (s.size : Int) 3000 = ((min s.size 3000 : Nat) : Int) := by unfold mn; split <;> omega
      have hsz : (s.extract 0 (min s.size 3000)).size = min s.size 3000 := by rw [ByteArray.size_extract]; omega
      have hsz2 : (s.extract (min s.size 3000) s.size).size = s.size - min s.size 3000 := by rw [ByteArray.size_extract]; omega
      have hb1 : bytesOf (s.extract 0 (min s.size 3000)) = (bytesOf s).take 3000 := by
        rw [bytesOf_extract, List.drop_zero]
        rcases Nat.le_total s.size 3000 with h | h
        · rw [Nat.min_eq_left h, List.take_of_length_le (by rw [bytesOf_length]; omega), List.take_of_length_le (by rw [bytesOf_length]; omega)]
        · rw [Nat.min_eq_right h]
      have hb2 : bytesOf (s.extract (min s.size 3000) s.size) = (bytesOf s).drop 3000 := by
        rw [bytesOf_extract, List.take_of_length_le (by rw [bytesOf_length]; omega)]
        rcases Nat.le_total s.size 3000 with h | h
        · rw [Nat.min_eq_left h, List.drop_of_length_le (by rw [bytesOf_length]; omega), List.drop_of_length_le (by rw [bytesOf_length]; omega)]
        · rw [Nat.min_eq_right h]
      have hl1 : ((bytesOf s).take 3000).length ≤ 3000 := List.length_take_le ..
      refine Ev.step (fun k => by simp only [wal_PutSnap.l0]; rw [if_neg h0, hmn, if_pos (by omega), if_pos (by omega), Int.toNat_natCast, if_pos (by rw [hsz]; omega), hb1]) ?_
      refine Ev.bind (Seal_ev 4 _ (by decide) ((bytes_of s).take 3000) (by omega)) ?_
      have hseal : sealF 4 ((bytesOf s).take 3000) = frameF 4 ((bytesOf s).take 3000) := by unfold sealF; rw [if_neg (by omega)]
      have hfl := frameF_length 4 ((bytesOf s).take 3000)
      have hz := enc_len_small (n := ((bytesOf s).take 3000).length) (by omega)
      rw [hseal, partsF_step (by intro h; have := bytesOf_length s; rw [h] at this; simp at this; omega), ← List.append_assoc, ← hb2]
      refine Ev.congr (fun k => if_pos (by omega)) ?_
      exact ih (s.size - min s.size 3000) (by omega) _ _ hsz2 (by omega) (by rw [List.length_append]; omega)
theorem PutSnap_ev {x y : Int} (hx : -9223372036854775808 ≤ x ∧ x ≤ 9223372036854775807) (hy : -9223372036854775808 ≤ y ∧ y ≤ 9223372036854775807) (c d : ByteArray) : Ev (fun k => wal_PutSnap.f k x y c d) (snapF x y c d) := by
  unfold wal_PutSnap.f snapF
  refine Ev.bind (may_ev x y c d) ?_
  by_cases h : mayS x y c d = true
  · rw [h, if_pos rfl]
    obtain ⟨h1, h2, h3, h4⟩ := mayS_says h
    have z1 := zig_i64 hx
    have z2 := zig_i64 hy
    have z3 := zig_i64 (n := (c.size : Int)) (by omega)
    have z4 := zig_i64 (n := (d.size : Int)) (by omega)
    refine Ev.bind (Put_ev [] hx.1 hx.2 (by simp)) (Ev.bind (Put_ev _ hy.1 hy.2 (by simp; omega)) (Ev.bind (PutText_ev _ c (by simp only [List.length_append, List.length_nil]; omega)) (Ev.bind (Put_ev _ (a := (d.size : Int)) (by omega) (by omega) (by simp only [List.length_append, List.length_nil, bytesOf_length]; omega)) ?_)))
    have hhead : [] ++ enc (zig x) ++ enc (zig y) ++ enc (zig (c.size : Int)) ++ bytesOf c ++ enc (zig (d.size : Int)) = snapHead x y c d := by unfold snapHead; simp
    rw [hhead]
    have hl := snapHead_len (x := x) (y := y) (c := c) (d := d) hx hy h3 h4
    refine Ev.bind (Seal_ev 3 _ (by decide) (snapHead_bytes x y c d) (by omega)) ?_
    have hseal : sealF 3 (snapHead x y c d) = frameF 3 (snapHead x y c d) := by unfold sealF; rw [if_neg (by omega)]
    rw [hseal]
    have hfl := frameF_length 3 (snapHead x y c d)
    have hz := enc_len_small (n := (snapHead x y c d).length) (by omega)
    exact PutSnap_loop d.size d _ rfl h4 (by omega)
  · rw [Bool.eq_false_iff.2 h, if_neg (by simp)]
    exact Ev.congr (fun k => if_neg (by simp)) (Ev.now _)

theorem snapLoop_ev (l0 : List Int) (hb : Bytes l0) (hl : l0.length ≤ 140737488355328 - 1) (x y : Int) (c : ByteArray) (rest : List Int) (n : Nat) : ∀ (d all : List Int) (pos : Nat), d.length = n → d.length ≤ 200000 → Bytes d → l0.drop pos = partsF d ++ rest → pos ≤ l0.length → all.length + d.length ≤ 140737488355000 →
    Ev (fun k => snapLoop k l0 x y c all (d.length : Int) (pos : Int)) (x, y, c, strOfNums (all ++ d), ((pos + (partsF d).length : Nat) : Int), 0) := by
  induction n using Nat.strongRecOn with
  | _ n ih =>
    intro d all pos hn hd hbd hdr hpos hall
    by_cases h0 : d = []
    · subst h0
      refine Ev.step (f := fun _ => some (x, y, c, strOfNums all, (pos : Int), 0)) (fun k => ?_) ?_
      · simp only [snapLoop]
        rw [if_neg (by simp)]
      · rw [List.append_nil, partsF_nil]
        exact Ev.now _
    · have hp := List.length_pos_iff.2 h0
      have hl1 : (d.take 3000).length = min 3000 d.length := List.length_take
      have hl2 : (d.drop 3000).length = d.length - 3000 := List.length_drop
      have hfl := frameF_length 4 (d.take 3000)
      have hz := enc_len_small (n := (d.take 3000).length) (by omega)
      have hlen : (l0.drop pos).length = l0.length - pos := List.length_drop
      have hst := partsF_step h0
      have hd2 : l0.drop pos = frameF 4 (d.take 3000) ++ (partsF (d.drop 3000) ++ rest) := by rw [hdr, hst, List.append_assoc]
      have hlen2 : (l0.drop pos).length = (frameF 4 (d.take 3000)).length + (partsF (d.drop 3000) ++ rest).length := by rw [hd2, List.length_append]
      refine Ev.step (fun k => by simp only [snapLoop]; rw [if_pos (by omega), if_pos (by omega), if_pos (by omega), Int.toNat_natCast]) ?_
      refine Ev.bind (Open_ev _ (hb.drop _) (by omega)) ?_
      rw [hd2, open_frame (by decide) (by omega)]
      have hc : ((d.take 3000).length : Int) = (if 3000 < (d.length : Int) then 3000 else (d.length : Int)) := by
        split <;> omega
      refine Ev.congr (fun k => by simp only [if_true]; rw [if_pos hc, if_pos (by omega), wrap64_eq (n := (d.length : Int) - _) (by omega) (by omega), wrap64_eq (n := (pos : Int) + _) (by omega) (by omega), show ((d.length : Int) - ((d.take 3000).length : Int)) = ((d.drop 3000).length : Int) by omega, show ((pos : Int) + ((frameF 4 (d.take 3000)).length : Int)) = ((pos + (frameF 4 (d.take 3000)).length : Nat) : Int) by omega]) ?_
      have key := ih (d.drop 3000).length (by omega) (d.drop 3000) (all ++ d.take 3000) (pos + (frameF 4 (d.take 3000)).length) rfl (by omega) (hbd.drop _) (by rw [← List.drop_drop, hd2, List.drop_left]) (by omega) (by rw [List.length_append]; omega)
      rw [List.append_assoc, List.take_append_drop] at key
      rw [hst, List.length_append, ← Nat.add_assoc]
      exact key
theorem GetSnap_ev {x y : Int} {c d : ByteArray} (h : mayS x y c d = true) (rest : List Int) (hr : Bytes rest) (hrl : rest.length ≤ 1000000) :
    Ev (fun k => wal_GetSnap.f k (snapF x y c d ++ rest)) (x, y, c, d, ((snapF x y c d).length : Int), 0) := by
  obtain ⟨h1, h2, h3, h4⟩ := mayS_says h
  have hhl := snapHead_len (x := x) (y := y) (c := c) (d := d) (by omega) (by omega) h3 h4
  have hfl := frameF_length 3 (snapHead x y c d)
  have hz := enc_len_small (n := (snapHead x y c d).length) (by omega)
  have hs : snapF x y c d = frameF 3 (snapHead x y c d) ++ partsF (bytesOf d) := by unfold snapF; rw [if_pos h]
  have hpl := partsF_len _ (bytesOf d) rfl
  have hbl := bytesOf_length d
  have hbs : Bytes (snapF x y c d ++ rest) := by
    rw [hs]
    exact ((frameF_bytes (by decide) (snapHead_bytes x y c d)).append (partsF_bytes _ _ rfl (bytes_of d))).append hr
  have hlen : (snapF x y c d ++ rest).length = (frameF 3 (snapHead x y c d)).length + (partsF (bytesOf d)).length + rest.length := by rw [hs, List.length_append, List.length_append]
  have ho : openF (snapF x y c d ++ rest) = (3, snapHead x y c d, ((frameF 3 (snapHead x y c d)).length : Int), 0) := by
    rw [hs, List.append_assoc]
    exact open_frame (by decide) (by omega) _
  have hin : inF 0 200000 [(d.size : Int)] = true := by simp [inF]; omega
  have hmay : mayS x y c ⟨#[]⟩ = true := by simp [mayS, inF, show (⟨#[]⟩ : ByteArray).size = 0 from rfl] at h ⊢; omega
  unfold wal_GetSnap.f
  refine Ev.bind (Open_ev _ hbs (by omega)) ?_
  rw [ho]
  refine Ev.congr (fun k => if_pos rfl) ?_
  refine Ev.bind (rdNum_ev _ (snapHead_bytes x y c d) false) ?_
  have e1 : rdN (snapHead x y c d) false = (x, enc (zig y) ++ (enc (zig (c.size : Int)) ++ bytesOf c ++ (enc (zig (d.size : Int)) ++ [])), false) := rdN_enc (by omega) _
  rw [e1]
  have b2 : Bytes (enc (zig y) ++ (enc (zig (c.size : Int)) ++ bytesOf c ++ (enc (zig (d.size : Int)) ++ []))) := Bytes.right (a := enc (zig x)) (snapHead_bytes x y c d)
  refine Ev.bind (rdNum_ev _ b2 false) ?_
  rw [rdN_enc (by omega)]
  have b3 := Bytes.right b2
  have l3 : (enc (zig (c.size : Int)) ++ bytesOf c ++ (enc (zig (d.size : Int)) ++ [])).length ≤ 90 := by
    unfold snapHead at hhl
    rw [List.length_append, List.length_append] at hhl
    omega
  refine Ev.bind (rdText_ev _ b3 (Nat.le_trans l3 (by decide)) false) ?_
  rw [rdT_put (by omega)]
  refine Ev.bind (rdNum_ev _ (Bytes.right b3) false) ?_
  rw [rdN_enc (by omega)]
  refine Ev.congr (fun k => if_pos rfl) ?_
  refine Ev.congr (fun k => if_pos rfl) ?_
  refine Ev.bind (may_ev x y c ⟨#[]⟩) ?_
  rw [hmay]
  refine Ev.congr (fun k => if_pos rfl) ?_
  refine Ev.bind (In_ev 0 200000 [(d.size : Int)] (by simp)) ?_
  rw [hin]
  refine Ev.congr (fun k => if_pos rfl) ?_
  have key := snapLoop_ev (snapF x y c d ++ rest) hbs (by omega) x y c rest _ (bytesOf d) [] (frameF 3 (snapHead x y c d)).length rfl (by rw [hbl]; exact h4) (bytes_of d) (by rw [hs, List.append_assoc, List.drop_left]) (by omega) (by simp only [List.length_nil]; omega)
  rw [List.nil_append, strOf_bytesOf, bytesOf_length] at key
  have e : (snapF x y c d).length = (frameF 3 (snapHead x y c d)).length + (partsF (bytesOf d)).length := by rw [hs, List.length_append]
  rw [e]
  exact key

theorem begun_ev : Ev (fun k => donatuslaw18_begun.f k) true := Ev.of (fun k => donatuslaw18_begun.mono k) (k := 100) (by decide +kernel)
theorem Big_end (n : Nat) (hn : n ≤ 201000) (l : List Int) (hl : l.length = n) (i : Nat) (hi : n ≤ i) : Ev (fun k => donatuslaw18_WalBig.l0 k (n : Int) l (i : Int)) true := by
  have hsz : (strOfNums l).size = n := by rw [strOfNums_size, hl]
  have h1 : (⟨#[49]⟩ : ByteArray).size = 1 := rfl
  refine Ev.step (fun k => by simp only [donatuslaw18_WalBig.l0]; rw [if_neg (by omega)]) ?_
  refine Ev.bind (PutSnap_ev (by decide) (by decide) _ _) ?_
  by_cases h : n ≤ 200000
  · have hm : mayS 3 2 ⟨#[49]⟩ (strOfNums l) = true := by simp [mayS, inF, h1, hsz]; omega
    refine Ev.congr (fun k => if_neg (by omega)) ?_
    have key := GetSnap_ev hm [] Bytes.nil (by decide)
    rw [List.append_nil] at key
    refine Ev.bind key ?_
    simp only [if_true, donatusref17_EqSnap.f, beq_self_eq_true, Option.bind_some]
    exact Ev.now _
  · have hm : mayS 3 2 ⟨#[49]⟩ (strOfNums l) = false := by simp [mayS, hsz]; omega
    have hs : snapF 3 2 ⟨#[49]⟩ (strOfNums l) = [] := by unfold snapF; rw [hm]; rfl
    rw [hs]
    exact Ev.congr (fun k => if_pos (by omega)) (Ev.now _)
theorem Big_fill (n : Nat) (hn : n ≤ 201000) : ∀ (m i : Nat) (l : List Int), l.length = n → n ≤ i + m → i ≤ 202000 → Ev (fun k => donatuslaw18_WalBig.l0 k (n : Int) l (i : Int)) true := by
  intro m
  induction m with
  | zero =>
    intro i l hl hm hi
    exact Big_end n hn l hl i hm
  | succ m ih =>
    intro i l hl hm hi
    by_cases h : n ≤ i
    · exact Big_end n hn l hl i h
    · refine Ev.step (fun k => by simp only [donatuslaw18_WalBig.l0]; rw [if_pos (by omega), if_pos (by omega), if_pos (by omega), Int.toNat_natCast, wrap64_eq (by omega) (by omega)]; rfl) (ih (i + 97) (l.set i ((i : Int) % 256)) (by rw [List.length_set, hl]) (by omega) (by omega))
theorem WalBig : donatuslaw18_WalBig.Pure := by
  intro n hn
  have hn := i64_bd hn
  refine Ev.rounds (r := true) ?_
  unfold donatuslaw18_WalBig.f
  refine Ev.bind begun_ev ?_
  have key : Ev (fun k => donatuslaw18_WalBig.j0 k n (decide (n < 0 ∨ n > 201000))) true := by
    by_cases h : n < 0 ∨ n > 201000
    · refine Ev.step (f := fun _ => some true) (fun k => ?_) (Ev.now _)
      simp only [donatuslaw18_WalBig.j0]
      rw [if_pos (by simpa using h)]
    · obtain ⟨m, rfl⟩ := Int.eq_ofNat_of_zero_le (show 0 ≤ n by omega)
      refine Ev.step (fun k => by simp only [donatuslaw18_WalBig.j0]; rw [if_neg (by simpa using h), if_pos (by omega), Int.toNat_natCast, if_pos (by omega)]) ?_
      exact Big_fill m (by omega) m 0 _ List.length_replicate (by omega) (by omega)
  refine Ev.congr (fun k => ?_) key
  rw [if_pos rfl]
  by_cases h : n < 0
  · rw [if_pos h]; congr 1; simp [h]
  · rw [if_neg h]; congr 1; simp [h]

end Go.Proofs.Ytoamlagpnnmnhab.Pure
