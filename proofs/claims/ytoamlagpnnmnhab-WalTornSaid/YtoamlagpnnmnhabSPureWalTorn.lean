/- WalTorn: of records whose last one is torn anywhere all others are told, and that the tail is torn: for all records. -/
import Derived.Test.YtoamlagpnnmnhabSPWalTornx11
import Derived.Test.YtoamlagpnnmnhabSWal
namespace Go.Proofs.Ytoamlagpnnmnhab.Pure
open Go.RowKit Go.Proofs.Ytoamlagpnnmnhab.PWalTorn Go.Proofs.YtoamlagpnnmnhabW.PrintWords Go.Proofs.YtoamlagpnnmnhabW.PrintLast Go.Proofs.YtoamlagpnnmnhabW.PrintMore Go.Proofs.Ytoamlagpnnmnhab.Spec

theorem Put_loop (u : Nat) : ∀ (l : List Int), l.length + (enc u).length ≤ 140737488355328 → Ev (fun k => num_Put.l0 k l (u : Int)) (l ++ enc u) := by
  induction u using Nat.strongRecOn with
  | _ u ih =>
    intro l hl
    have hp := enc_pos u
    by_cases h : u < 128
    · refine Ev.step (f := fun _ => some (l ++ enc u)) (fun k => ?_) (Ev.now _)
      simp only [num_Put.l0]
      rw [if_neg (by omega), if_pos (by omega), enc_small h, show (u : Int) % 256 = (u : Int) from by omega]
    · refine Ev.step (f := fun k => num_Put.l0 k (l ++ [((u % 128 + 128 : Nat) : Int)]) ((u / 128 : Nat) : Int)) (fun k => ?_) ?_
      · simp only [num_Put.l0]
        rw [if_pos (by omega), if_pos (by omega), or128 (by omega) (by omega)]
        congr 2
        · congr 1
          omega
      · have e : l ++ enc u = (l ++ [((u % 128 + 128 : Nat) : Int)]) ++ enc (u / 128) := by rw [enc_step (by omega)]; simp
        rw [e]
        refine ih (u / 128) (by omega) _ ?_
        rw [enc_step (u := u) (by omega), List.length_cons] at hl
        simp only [List.length_append, List.length_cons, List.length_nil]
        omega
theorem Put_ev (l : List Int) {a : Int} (h0 : -9223372036854775808 ≤ a) (h1 : a ≤ 9223372036854775807) (hl : l.length + 10 ≤ 140737488355328) : Ev (fun k => num_Put.f k l a) (l ++ enc (zig a)) := by
  have hz := enc_len10 (zig_lt h0 h1)
  have key : Ev (fun k => num_Put.j0 k l ((zig a : Nat) : Int)) (l ++ enc (zig a)) := Ev.step (fun k => rfl) (Put_loop _ _ (by omega))
  refine Ev.congr (fun k => ?_) key
  unfold num_Put.f
  by_cases h : a < 0
  · rw [if_pos h, wrap_u64, wrap_u64, not_u64 (by omega) (by omega)]
    congr 1
    unfold zig
    rw [if_pos h]
    omega
  · rw [if_neg h, wrap_u64, wrap_u64]
    congr 1
    unfold zig
    rw [if_neg h]
    omega

theorem Get_loop (l : List Int) (hb : ∀ x ∈ l, 0 ≤ x ∧ x < 256) (r : List Int) : ∀ (i u : Nat), l.drop i = r → u < 2 ^ (7 * i) → i ≤ 9 → Ev (fun k => num_Get.l0 k (u : Int) l (l.length : Int) (i : Int)) (numGet i u r) := by
  induction r with
  | nil =>
    intro i u hd hu hi
    have hge : l.length ≤ i := by simpa using List.drop_eq_nil_iff.1 hd
    refine Ev.step (f := fun _ => some (0, 0, 2)) (fun k => ?_) (Ev.now _)
    simp only [num_Get.l0]
    rw [if_neg (by omega)]
  | cons c r ih =>
    intro i u hd hu hi
    obtain ⟨hrd, hlt, hd'⟩ := rd_cons l i c r hd
    have hc : 0 ≤ c ∧ c < 256 := hb c (List.mem_of_mem_drop (by rw [hd]; exact List.mem_cons_self ..))
    have hpw : (2 : Nat) ^ (7 * i) ≤ 2 ^ 63 := Nat.pow_le_pow_right (by decide) (by omega)
    have hw : wrap64 (7 * (i : Int)) = ((7 * i : Nat) : Int) := by rw [wrap64_eq (by omega) (by omega)]; omega
    have hsmall : ¬(i = 9 ∧ c > 1) → (c % 128) * 2 ^ (7 * i) < 2 ^ 64 := by
      intro h
      have : ((c % 128).toNat) * 2 ^ (7 * i) < 2 ^ 64 := by
        rcases Nat.lt_or_ge i 9 with h9 | h9
        · have h5 : (2 : Nat) ^ (7 * i) ≤ 2 ^ 56 := Nat.pow_le_pow_right (by decide) (by omega)
          have := Nat.mul_le_mul (show (c % 128).toNat ≤ 127 by omega) h5
          omega
        · have h10 : i = 9 := by omega
          subst h10
          have := Nat.mul_le_mul (show (c % 128).toNat ≤ 1 by omega) (Nat.le_refl (2 ^ (7 * 9)))
          omega
      have ec : (((c % 128).toNat : Nat) : Int) = c % 128 := by omega
      have e : ((c % 128) * 2 ^ (7 * i) : Int) = (((c % 128).toNat * 2 ^ (7 * i) : Nat) : Int) := by
        rw [Int.natCast_mul, ec]
        simp
      rw [e]
      exact_mod_cast this
    have hacc : ¬(i = 9 ∧ c > 1) → Go.bits .or .u64 (u : Int) (shl .u64 (IntKind.u64.wrap (Go.bits .and .u8 c 127)) (wrap64 (7 * (i : Int)))) = ((u + (c % 128).toNat * 2 ^ (7 * i) : Nat) : Int) := by
      intro h
      rw [and127 hc.1 hc.2, wrap_u64, show c % 128 % 18446744073709551616 = c % 128 by omega, hw, or_join (7 * i) (by omega) (by exact_mod_cast hu) (by omega) (by omega) (hsmall h)]
      have ec : (((c % 128).toNat : Nat) : Int) = c % 128 := by omega
      rw [Int.natCast_add, Int.natCast_mul, ec]
      simp
    have hlim : ¬(i = 9 ∧ c > 1) → u + (c % 128).toNat * 2 ^ (7 * i) < 18446744073709551616 := by
      intro h
      rcases Nat.lt_or_ge i 9 with h9 | h9
      · have h5 : (2 : Nat) ^ (7 * i) ≤ 2 ^ 56 := Nat.pow_le_pow_right (by decide) (by omega)
        have := Nat.mul_le_mul (show (c % 128).toNat ≤ 127 by omega) h5
        omega
      · have h10 : i = 9 := by omega
        subst h10
        have := Nat.mul_le_mul (show (c % 128).toNat ≤ 1 by omega) (Nat.le_refl (2 ^ (7 * 9)))
        omega
    refine Ev.step (f := fun k => num_Get.j1 k (u : Int) (i : Int) c l (l.length : Int) (i : Int) (decide (i = 9 ∧ c > 1))) (fun k => ?_) ?_
    · simp only [num_Get.l0]
      rw [if_pos (by omega), if_pos (by omega), if_pos (by omega), hrd]
      by_cases h9 : i = 9
      · rw [if_pos (by omega)]
        congr 1
        simp [h9]
      · rw [if_neg (by omega)]
        congr 1
        simp [h9]
    · rw [numGet]
      by_cases h1 : i = 9 ∧ c > 1
      · rw [if_pos h1]
        refine Ev.step (f := fun _ => some (0, 0, 1)) (fun k => ?_) (Ev.now _)
        simp only [num_Get.j1]
        rw [if_pos (by simpa using h1)]
      · rw [if_neg h1]
        have hacc' := hacc h1
        have hlim' := hlim h1
        by_cases h2 : c > 127
        · rw [if_pos h2]
          have e2 : 2 ^ (7 * (i + 1)) = 128 * 2 ^ (7 * i) := by rw [Nat.mul_add, Nat.pow_add, Nat.mul_comm]
          have hu' : u + (c % 128).toNat * 2 ^ (7 * i) < 2 ^ (7 * (i + 1)) := by
            rw [e2]
            have : (c % 128).toNat * 2 ^ (7 * i) ≤ 127 * 2 ^ (7 * i) := Nat.mul_le_mul_right _ (by omega)
            omega
          refine Ev.step (f := fun k => num_Get.l0 k ((u + (c % 128).toNat * 2 ^ (7 * i) : Nat) : Int) l (l.length : Int) ((i + 1 : Nat) : Int)) (fun k => ?_) (ih (i + 1) _ hd' hu' (by omega))
          simp only [num_Get.j1]
          rw [if_neg (by simpa using h1), if_pos (by rw [hw]; omega), if_pos h2, hacc', wrap64_eq (by omega) (by omega)]
          rfl
        · rw [if_neg h2]
          have hcm : (c % 128).toNat = c.toNat := by omega
          rw [hcm] at hacc' hlim'
          have fin : Ev (fun k => num_Get.j2 k ((u + c.toNat * 2 ^ (7 * i) : Nat) : Int) (i : Int) (decide (0 < i ∧ c = 0))) (if 0 < i ∧ c = 0 then (0, 0, 1) else (zag (u + c.toNat * 2 ^ (7 * i)), (i : Int) + 1, 0)) := by
            by_cases h3 : 0 < i ∧ c = 0
            · rw [if_pos h3]
              refine Ev.step (f := fun _ => some (0, 0, 1)) (fun k => ?_) (Ev.now _)
              simp only [num_Get.j2]
              rw [if_pos (by simpa using h3)]
            · rw [if_neg h3]
              refine Ev.step (f := fun _ => some (zag (u + c.toNat * 2 ^ (7 * i)), (i : Int) + 1, 0)) (fun k => ?_) (Ev.now _)
              simp only [num_Get.j2]
              rw [if_neg (by simpa using h3), and1_u64 (by omega) (by omega), wrap64_eq (n := (i : Int) + 1) (by omega) (by omega)]
              generalize u + c.toNat * 2 ^ (7 * i) = m at hlim'
              unfold zag
              by_cases h4 : m % 2 = 1
              · rw [if_pos (by omega), if_pos h4, wrap64_eq (by omega) (by omega), not_i64 (by omega) (by omega)]
                congr 3
              · rw [if_neg (by omega), if_neg h4, wrap64_eq (by omega) (by omega)]
                congr 3
          refine Ev.step (fun k => ?_) fin
          simp only [num_Get.j1]
          rw [if_neg (by simpa using h1), if_pos (by rw [hw]; omega), if_neg h2, hacc']
          by_cases h3 : 0 < i
          · rw [if_pos (by omega)]
            congr 1
            simp [h3, Bool.beq_eq_decide_eq]
          · rw [if_neg (by omega)]
            congr 1
            simp [h3]
theorem Get_ev (l : List Int) (hb : ∀ x ∈ l, 0 ≤ x ∧ x < 256) : Ev (fun k => num_Get.f k l) (numGet 0 0 l) :=
  Get_loop l hb l 0 0 rfl (by simp) (by omega)

theorem GetText_ev (l : List Int) (hb : ∀ x ∈ l, 0 ≤ x ∧ x < 256) (hl : l.length ≤ 140737488355328) : Ev (fun k => num_GetText.f k l) (getText l) := by
  unfold num_GetText.f
  refine Ev.bind (Get_ev l hb) ?_
  unfold getText
  by_cases h : (numGet 0 0 l).2.2 = 0
  · have hok := numGet_ok l hb h
    generalize numGet 0 0 l = q at *
    obtain ⟨n, m, e⟩ := q
    simp only at *
    subst h
    have key : Ev (fun k => num_GetText.j0 k l n m (decide (n < 0 ∨ n > 1048576))) (if n < 0 ∨ n > 1048576 then ((⟨#[]⟩ : ByteArray), 0, 1)
        else if n > (l.length : Int) - m then (⟨#[]⟩, 0, 2) else (strOfNums ((l.drop m.toNat).take n.toNat), m + n, 0)) := by
      by_cases h1 : n < 0 ∨ n > 1048576
      · rw [if_pos h1]
        refine Ev.step (f := fun _ => some ((⟨#[]⟩ : ByteArray), 0, 1)) (fun k => ?_) (Ev.now _)
        simp only [num_GetText.j0]
        rw [if_pos (by simpa using h1)]
      · rw [if_neg h1]
        by_cases h2 : n > (l.length : Int) - m
        · rw [if_pos h2]
          refine Ev.step (f := fun _ => some ((⟨#[]⟩ : ByteArray), 0, 2)) (fun k => ?_) (Ev.now _)
          simp only [num_GetText.j0]
          rw [if_neg (by simpa using h1), if_pos (by rw [wrap64_eq (by omega) (by omega)]; exact h2)]
        · rw [if_neg h2]
          refine Ev.step (f := fun _ => some (strOfNums ((l.drop m.toNat).take n.toNat), m + n, 0)) (fun k => ?_) (Ev.now _)
          simp only [num_GetText.j0]
          have hw : wrap64 (m + n) = m + n := wrap64_eq (by omega) (by omega)
          rw [if_neg (by simpa using h1), if_neg (by rw [wrap64_eq (by omega) (by omega)]; exact h2), if_pos (by omega), hw, if_pos (by omega), if_pos (by omega)]
          rw [List.drop_take, show (m + n).toNat - m.toNat = n.toNat by omega]
    simp only [if_true]
    refine Ev.congr (fun k => ?_) key
    by_cases h1 : n < 0
    · rw [if_pos h1]; congr 1; simp [h1]
    · rw [if_neg h1]; congr 1; simp [h1]
  · simp only [if_neg h]
    exact Ev.now _

theorem PutText_ev (l : List Int) (s : ByteArray) (hl : l.length + 10 + s.size < 140737488355328) : Ev (fun k => num_PutText.f k l s) (l ++ enc (zig (s.size : Int)) ++ bytesOf s) := by
  unfold num_PutText.f
  have hz := enc_len10 (zig_lt (n := (s.size : Int)) (by omega) (by omega))
  refine Ev.bind (Put_ev l (a := (s.size : Int)) (by omega) (by omega) (by omega)) ?_
  refine Ev.congr (fun k => if_pos ?_) (Ev.now _)
  rw [List.length_append]
  omega

theorem More_bits (l : List Int) (i : Int) (r : Int) (d : Nat) : ∀ (x : Nat) (j : Int), x < 4294967296 → 8 - j = d → 0 ≤ j → Ev (fun k => crc_More.l0 k ((crcSteps d x : Nat) : Int) l (l.length : Int) (wrap64 (i + 1))) r →
    Ev (fun k => crc_More.l1 k (x : Int) l (l.length : Int) i j) r := by
  induction d with
  | zero =>
    intro x j hx hd h0 h
    refine Ev.step (fun k => ?_) h
    simp only [crc_More.l1]
    rw [if_neg (by omega)]
    rfl
  | succ d ih =>
    intro x j hx hd h0 h
    refine Ev.step (fun k => ?_) (ih (crcStep x) (j + 1) (crcStep_lt hx) (by omega) (by omega) h)
    simp only [crc_More.l1]
    rw [if_pos (by omega), crc_bits hx, wrap64_eq (n := j + 1) (by omega) (by omega)]
theorem More_loop (l : List Int) (hb : Bytes l) (hl : l.length ≤ 140737488355328) (r : List Int) : ∀ (x : Nat) (i : Nat), x < 4294967296 → l.drop i = r → i ≤ l.length → Ev (fun k => crc_More.l0 k (x : Int) l (l.length : Int) (i : Int)) ((4294967295 - crcRun x r : Nat) : Int) := by
  induction r with
  | nil =>
    intro x i hx hd hi
    have hge : l.length ≤ i := by simpa using List.drop_eq_nil_iff.1 hd
    refine Ev.step (f := fun _ => some ((4294967295 - crcRun x [] : Nat) : Int)) (fun k => ?_) (Ev.now _)
    simp only [crc_More.l0]
    rw [if_neg (by omega), not_u32 (by omega) (by omega)]
    congr 1
    simp only [crcRun]
    omega
  | cons c r ih =>
    intro x i hx hd hi
    obtain ⟨hrd, hlt, hd'⟩ := rd_cons l i c r hd
    have hc : 0 ≤ c ∧ c < 256 := hb c (List.mem_of_mem_drop (by rw [hd]; exact List.mem_cons_self ..))
    have hx' : x ^^^ c.toNat < 4294967296 := xor_byte_lt hx hc.2
    have key := ih (crcSteps 8 (x ^^^ c.toNat)) (i + 1) (crcSteps_lt 8 hx') hd' (by omega)
    refine Ev.step (fun k => ?_) (More_bits l (i : Int) ((4294967295 - crcRun x (c :: r) : Nat) : Int) 8 (x ^^^ c.toNat) 0 hx' (by omega) (by omega) ?_)
    · simp only [crc_More.l0]
      rw [if_pos (by omega), if_pos (by omega), if_pos (by omega), hrd, crc_in hx hc]
    · rw [wrap64_eq (n := (i : Int) + 1) (by omega) (by omega)]
      exact key
theorem More_ev (s : Nat) (hs : s < 4294967296) (l : List Int) (hb : Bytes l) (hl : l.length ≤ 140737488355328) : Ev (fun k => crc_More.f k (s : Int) l) ((crcMore s l : Nat) : Int) := by
  have := More_loop l hb hl l (4294967295 - s) 0 (by omega) rfl (by omega)
  refine Ev.congr (fun k => ?_) this
  unfold crc_More.f
  rw [not_u32 (by omega) (by omega)]
  congr 1
  omega
theorem Sum_ev (l : List Int) (hb : Bytes l) (hl : l.length ≤ 140737488355328) : Ev (fun k => crc_Sum.f k l) ((crcMore 0 l : Nat) : Int) := by
  unfold crc_Sum.f
  exact Ev.bind (More_ev 0 (by omega) l hb hl) (Ev.now _)

theorem Four_ev (s : Nat) : num_Four.f (s : Int) = some (four s) := by
  unfold num_Four.f
  rw [four_is]
theorem Seal_ev (kind : Int) (b : List Int) (hk : -9223372036854775808 ≤ kind ∧ kind ≤ 9223372036854775807) (hb : Bytes b) (hl : b.length ≤ 140737488355328) : Ev (fun k => frame_Seal.f k kind b) (sealF kind b) := by
  have key : Ev (fun k => frame_Seal.j0 k kind b (decide (kind < 1 ∨ kind > 255 ∨ b.length > 4000))) (sealF kind b) := by
    unfold sealF
    by_cases h : kind < 1 ∨ kind > 255 ∨ b.length > 4000
    · rw [if_pos h]
      refine Ev.step (f := fun _ => some []) (fun k => ?_) (Ev.now _)
      simp only [frame_Seal.j0]
      rw [if_pos (by simpa using h)]
    · rw [if_neg h]
      refine Ev.step (fun k => by simp only [frame_Seal.j0]; rw [if_neg (by simpa using h)]) ?_
      have hh : [kind % 256] ++ enc (zig (b.length : Int)) = headF kind b.length := by
        unfold headF
        rw [show kind % 256 = kind by omega]
        rfl
      have hz := enc_len_small (n := b.length) (by omega)
      have hhl : (headF kind b.length).length ≤ 3 := by rw [headF_length]; omega
      have hhb : Bytes (headF kind b.length) := headF_bytes (by omega)
      refine Ev.bind (Put_ev [kind % 256] (a := (b.length : Int)) (by omega) (by omega) (by simp)) ?_
      rw [hh]
      refine Ev.bind (Sum_ev _ hhb (by omega)) (Ev.bind (More_ev _ (crcMore_lt _ _) b hb hl) ?_)
      rw [crcMore_append 0 _ _ (by omega) hhb]
      simp only [Four_ev, Option.bind_some]
      refine Ev.congr (fun k => by rw [if_pos (by rw [four_length]; omega), if_pos (by rw [List.length_append, four_length]; omega)]) ?_
      rw [List.append_assoc]
      exact Ev.now _
  refine Ev.congr (fun k => ?_) key
  unfold frame_Seal.f
  by_cases h : kind < 1
  · rw [if_pos h]; congr 1; simp [h]
  · rw [if_neg h]
    by_cases h2 : kind > 255
    · rw [if_pos h2]; congr 1; simp [h2]
    · rw [if_neg h2]; congr 1; simp [h, h2]; omega

theorem Open_ev (l : List Int) (hb : Bytes l) (hl : l.length ≤ 140737488355328 - 1) : Ev (fun k => frame_Open.f k l) (openF l) := by
  unfold frame_Open.f
  cases l with
  | nil => exact Ev.now _
  | cons c r =>
    have hc := hb c (List.mem_cons_self ..)
    have hbr : Bytes r := Bytes.tail hb
    have hrd : rd (c :: r) 0 = c := rfl
    have hlen : ((c :: r).length : Int) = (r.length : Int) + 1 := by simp
    refine Ev.congr (fun k => by rw [if_neg (by omega), if_pos (by omega), hrd]) ?_
    unfold openF
    simp only
    by_cases h0 : c = 0
    · simp only [if_pos h0]; exact Ev.now _
    simp only [if_neg h0]
    refine Ev.congr (fun k => if_pos (by omega)) ?_
    have hd1 : (c :: r).drop 1 = r := rfl
    rw [hd1]
    refine Ev.bind (Get_ev r hbr) ?_
    have hok := numGet_ok r hbr
    have hfail := numGet_fail r hbr
    generalize numGet 0 0 r = q at *
    obtain ⟨n, m, e⟩ := q
    simp only at *
    have key : Ev (fun k => frame_Open.j0 k (c :: r) n m e (decide (e = 2 ∧ (c :: r).length ≤ 2))) (if e = 2 ∧ (c :: r).length ≤ 2 then ((0 : Int), ([] : List Int), (0 : Int), (2 : Int)) else
        if e ≠ 0 ∨ n < 0 ∨ n > 4000 then (0, [], 0, 3) else if ((c :: r).length : Int) < 1 + m + 4 + n then (0, [], 0, 2) else
        if four (crcMore 0 ((c :: r).take (1 + m.toNat) ++ ((c :: r).drop (1 + m.toNat + 4)).take n.toNat)) = ((c :: r).drop (1 + m.toNat)).take 4 then (c, ((c :: r).drop (1 + m.toNat + 4)).take n.toNat, 1 + m + 4 + n, 0) else (0, [], 0, 3)) := by
      by_cases h1 : e = 2 ∧ (c :: r).length ≤ 2
      · rw [if_pos h1]
        refine Ev.step (f := fun _ => some (0, [], 0, 2)) (fun k => ?_) (Ev.now _)
        simp only [frame_Open.j0]
        rw [if_pos (by simpa using h1)]
      rw [if_neg h1]
      have hd : decide (e = 2 ∧ (c :: r).length ≤ 2) = false := decide_eq_false h1
      rw [hd]
      by_cases h2 : e ≠ 0 ∨ n < 0 ∨ n > 4000
      · rw [if_pos h2]
        refine Ev.step (f := fun _ => some (0, [], 0, 3)) (fun k => ?_) (Ev.now _)
        simp only [frame_Open.j0]
        rw [if_neg (by simp)]
        by_cases h3 : e = 0
        · rw [if_pos h3]
          by_cases h4 : n < 0
          · rw [if_pos h4]
          · rw [if_neg h4, if_pos (by omega)]
        · rw [if_neg h3]
      rw [if_neg h2]
      have he : e = 0 := by omega
      obtain ⟨a, rfl⟩ := Int.eq_ofNat_of_zero_le (show 0 ≤ n by omega)
      have hok' := hok he
      obtain ⟨j, rfl⟩ := Int.eq_ofNat_of_zero_le (show 0 ≤ m by omega)
      have w1 : wrap64 (1 + (j : Int)) = 1 + (j : Int) := wrap64_eq (by omega) (by omega)
      have w2 : wrap64 (1 + (j : Int) + 4) = 1 + (j : Int) + 4 := wrap64_eq (by omega) (by omega)
      have w3 : wrap64 (1 + (j : Int) + 4 + (a : Int)) = 1 + (j : Int) + 4 + (a : Int) := wrap64_eq (by omega) (by omega)
      by_cases h5 : ((c :: r).length : Int) < 1 + (j : Int) + 4 + (a : Int)
      · rw [if_pos h5]
        refine Ev.step (f := fun _ => some (0, [], 0, 2)) (fun k => ?_) (Ev.now _)
        simp only [frame_Open.j0]
        rw [if_neg (by simp), if_pos he, if_neg (by omega), if_neg (by omega), w1, w2, w3, if_pos h5]
      rw [if_neg h5]
      refine Ev.step (fun k => by simp only [frame_Open.j0]; rw [if_neg (by simp), if_pos he, if_neg (by omega), if_neg (by omega), w1, w2, w3, if_neg h5, if_pos (by omega), if_pos (by omega), if_pos (by omega), if_pos (by omega), if_pos (by omega)]) ?_
      have t1 : (1 + (j : Int)).toNat = 1 + j := by omega
      have t2 : (1 + (j : Int) + 4).toNat = 1 + j + 4 := by omega
      have t3 : (1 + (j : Int) + 4 + (a : Int)).toNat = 1 + j + 4 + a := by omega
      rw [t1, t2, t3]
      have p1 : ((c :: r).take (1 + j + 4 + a)).drop (1 + j + 4) = ((c :: r).drop (1 + j + 4)).take a := by rw [List.drop_take]; congr 1; omega
      have p2 : ((c :: r).take (1 + j + 4)).drop (1 + j) = ((c :: r).drop (1 + j)).take 4 := by rw [List.drop_take]; congr 1; omega
      rw [p1, p2]
      refine Ev.bind (Sum_ev _ (hb.take _) (Nat.le_trans (List.length_take_le ..) (by omega))) (Ev.bind (More_ev _ (crcMore_lt _ _) _ ((hb.drop _).take _) ?_) ?_)
      · exact Nat.le_trans (List.length_take_le ..) (by omega)
      rw [crcMore_append 0 _ _ (by omega) (hb.take _)]
      simp only [Four_ev, Option.bind_some, Int.toNat_natCast]
      refine Ev.congr (fun k => by rw [if_pos (by omega), if_pos (by omega)]) ?_
      by_cases h6 : four (crcMore 0 ((c :: r).take (1 + j) ++ ((c :: r).drop (1 + j + 4)).take a)) = ((c :: r).drop (1 + j)).take 4
      · rw [if_pos h6]
        have hcl : (((c :: r).drop (1 + j + 4)).take a).length ≤ a := List.length_take_le ..
        refine Ev.congr (fun k => by rw [if_pos (by rw [h6]), if_pos (by omega), if_pos (by simp only [List.length_nil]; omega), hrd, wrap64_eq (n := c) (by omega) (by omega), List.nil_append]) (Ev.now _)
      · rw [if_neg h6]
        refine Ev.congr (fun k => if_neg (fun h7 => h6 (strOfNums_inj (four_bytes _) ((hb.drop _).take _) h7))) (Ev.now _)
    refine Ev.congr (fun k => ?_) key
    by_cases h1 : e = 2
    · rw [if_pos h1]; congr 1; simp [h1]; omega
    · rw [if_neg h1]; congr 1; simp [h1]

theorem refPut_loop (u : Nat) : ∀ (l : List Int), u < 18446744073709551616 → l.length + (enc u).length ≤ 140737488355328 → Ev (fun k => donatusref1_Put.l0 k (u : Int) l) (l ++ enc u) := by
  induction u using Nat.strongRecOn with
  | _ u ih =>
    intro l hu hl
    have hp := enc_pos u
    by_cases h : u < 128
    · refine Ev.step (f := fun _ => some (l ++ enc u)) (fun k => ?_) (Ev.now _)
      simp only [donatusref1_Put.l0]
      rw [if_neg (by omega), if_pos (by omega), enc_small h, show (u : Int) % 256 = (u : Int) from by omega]
    · refine Ev.step (f := fun k => donatusref1_Put.l0 k ((u / 128 : Nat) : Int) (l ++ [((u % 128 + 128 : Nat) : Int)])) (fun k => ?_) ?_
      · simp only [donatusref1_Put.l0]
        rw [if_pos (by omega), if_pos (by omega), Int.tmod_eq_emod_of_nonneg (by omega), Int.tdiv_eq_ediv_of_nonneg (by omega), wrap_u64, wrap_u64]
        have e1 : (u : Int) / 128 % 18446744073709551616 = ((u / 128 : Nat) : Int) := by omega
        have e2 : ((u : Int) % 128 + 128) % 18446744073709551616 % 256 = ((u % 128 + 128 : Nat) : Int) := by omega
        rw [e1, e2]
      · have e : l ++ enc u = (l ++ [((u % 128 + 128 : Nat) : Int)]) ++ enc (u / 128) := by rw [enc_step (by omega)]; simp
        rw [e]
        refine ih (u / 128) (by omega) _ (by omega) ?_
        rw [enc_step (u := u) (by omega), List.length_cons] at hl
        simp only [List.length_append, List.length_cons, List.length_nil]
        omega
theorem refPut_ev {a : Int} (h0 : -9223372036854775808 ≤ a) (h1 : a ≤ 9223372036854775807) : Ev (fun k => donatusref1_Put.f k a) (enc (zig a)) := by
  have hz := enc_len10 (zig_lt h0 h1)
  have key : Ev (fun k => donatusref1_Put.j0 k ((zig a : Nat) : Int)) ([] ++ enc (zig a)) := Ev.step (fun k => rfl) (refPut_loop _ [] (zig_lt h0 h1) (by simp only [List.length_nil]; omega))
  rw [List.nil_append] at key
  refine Ev.congr (fun k => ?_) key
  unfold donatusref1_Put.f
  by_cases h : a < 0
  · rw [if_pos h, wrap_u64, wrap_u64, not_u64 (by omega) (by omega)]
    congr 1
    unfold zig
    rw [if_pos h]
    omega
  · rw [if_neg h, wrap_u64, wrap_u64]
    congr 1
    unfold zig
    rw [if_neg h]
    omega

theorem refSum_bits (l : List Int) (i : Int) (r : Int) (d : Nat) : ∀ (x : Nat) (j : Int), x < 4294967296 → 8 - j = d → 0 ≤ j → Ev (fun k => donatusref1_Sum.l0 k l ((crcSteps d x : Nat) : Int) (wrap64 (i + 1))) r →
    Ev (fun k => donatusref1_Sum.l1 k l (x : Int) i j) r := by
  induction d with
  | zero =>
    intro x j hx hd h0 h
    refine Ev.step (fun k => ?_) h
    simp only [donatusref1_Sum.l1]
    rw [if_neg (by omega)]
    rfl
  | succ d ih =>
    intro x j hx hd h0 h
    refine Ev.step (fun k => ?_) (ih (crcStep x) (j + 1) (crcStep_lt hx) (by omega) (by omega) h)
    simp only [donatusref1_Sum.l1]
    rw [if_pos (by omega), wrap64_eq (n := j + 1) (by omega) (by omega), Int.tmod_eq_emod_of_nonneg (by omega)]
    unfold crcStep
    by_cases h2 : x % 2 = 1
    · rw [if_pos (by omega), if_pos h2, xor_u32 (by omega) (by omega) (by omega) (by omega)]
      congr 3
    · rw [if_neg (by omega), if_neg h2, Nat.xor_zero]
      congr 1
theorem refSum_loop (l : List Int) (hb : Bytes l) (hl : l.length ≤ 140737488355328) (r : List Int) : ∀ (x : Nat) (i : Nat), x < 4294967296 → l.drop i = r → i ≤ l.length → Ev (fun k => donatusref1_Sum.l0 k l (x : Int) (i : Int)) ((4294967295 - crcRun x r : Nat) : Int) := by
  induction r with
  | nil =>
    intro x i hx hd hi
    have hge : l.length ≤ i := by simpa using List.drop_eq_nil_iff.1 hd
    refine Ev.step (f := fun _ => some ((4294967295 - crcRun x [] : Nat) : Int)) (fun k => ?_) (Ev.now _)
    simp only [donatusref1_Sum.l0]
    rw [if_neg (by omega), not_u32 (by omega) (by omega)]
    congr 1
    simp only [crcRun]
    omega
  | cons c r ih =>
    intro x i hx hd hi
    obtain ⟨hrd, hlt, hd'⟩ := rd_cons l i c r hd
    have hc : 0 ≤ c ∧ c < 256 := hb c (List.mem_of_mem_drop (by rw [hd]; exact List.mem_cons_self ..))
    have hx' : x ^^^ c.toNat < 4294967296 := xor_byte_lt hx hc.2
    have key := ih (crcSteps 8 (x ^^^ c.toNat)) (i + 1) (crcSteps_lt 8 hx') hd' (by omega)
    refine Ev.step (fun k => ?_) (refSum_bits l (i : Int) ((4294967295 - crcRun x (c :: r) : Nat) : Int) 8 (x ^^^ c.toNat) 0 hx' (by omega) (by omega) ?_)
    · simp only [donatusref1_Sum.l0]
      rw [if_pos (by omega), if_pos (by omega), hrd, crc_in hx hc]
    · rw [wrap64_eq (n := (i : Int) + 1) (by omega) (by omega)]
      exact key
theorem refSum_ev (l : List Int) (hb : Bytes l) (hl : l.length ≤ 140737488355328) : Ev (fun k => donatusref1_Sum.f k l) ((crcMore 0 l : Nat) : Int) :=
  refSum_loop l hb hl l 4294967295 0 (by decide) rfl (by omega)

theorem refSeal_ev (kind : Int) (b : List Int) (_hk : -9223372036854775808 ≤ kind ∧ kind ≤ 9223372036854775807) (hb : Bytes b) (_hl : b.length ≤ 140737488355328) : Ev (fun k => donatusref1_Seal.f k kind b) (sealF kind b) := by
  have key : Ev (fun k => donatusref1_Seal.j0 k kind b (decide (kind < 1 ∨ kind > 255 ∨ b.length > 4000))) (sealF kind b) := by
    unfold sealF
    by_cases h : kind < 1 ∨ kind > 255 ∨ b.length > 4000
    · rw [if_pos h]
      refine Ev.step (f := fun _ => some []) (fun k => ?_) (Ev.now _)
      simp only [donatusref1_Seal.j0]
      rw [if_pos (by simpa using h)]
    · rw [if_neg h]
      refine Ev.step (fun k => by simp only [donatusref1_Seal.j0]; rw [if_neg (by simpa using h)]) ?_
      have hh : [kind % 256] ++ enc (zig (b.length : Int)) = headF kind b.length := by
        unfold headF
        rw [show kind % 256 = kind by omega]
        rfl
      have hz := enc_len_small (n := b.length) (by omega)
      have hhl : (headF kind b.length).length ≤ 3 := by rw [headF_length]; omega
      have hhb : Bytes (headF kind b.length) := headF_bytes (by omega)
      simp only [Option.bind_some]
      refine Ev.bind (refPut_ev (a := (b.length : Int)) (by omega) (by omega)) ?_
      refine Ev.congr (fun k => by rw [if_pos (by simp only [List.length_cons, List.length_nil]; omega), hh, if_pos (by simp only [List.length_nil]; omega), List.nil_append, if_pos (by omega)]) ?_
      refine Ev.bind (refSum_ev _ (hhb.append hb) (by rw [List.length_append]; omega)) ?_
      rw [four_is]
      refine Ev.congr (fun k => by rw [if_pos (by rw [four_length]; omega), if_pos (by rw [List.length_append, four_length]; omega)]) ?_
      rw [List.append_assoc]
      exact Ev.now _
  refine Ev.congr (fun k => ?_) key
  unfold donatusref1_Seal.f
  by_cases h : kind < 1
  · rw [if_pos h]; congr 1; simp [h]
  · rw [if_neg h]
    by_cases h2 : kind > 255
    · rw [if_pos h2]; congr 1; simp [h2]
    · rw [if_neg h2]; congr 1; simp [h, h2]; omega

theorem In_loop (lo hi : Int) (l r : List Int) (hl : l.length ≤ 140737488355328) : ∀ i : Nat, l.drop i = r → i ≤ l.length → Ev (fun k => wal_in.l0 k lo hi l (l.length : Int) (i : Int)) (inF lo hi r) := by
  induction r with
  | nil =>
    intro i hd hi'
    have hge : l.length ≤ i := by simpa using List.drop_eq_nil_iff.1 hd
    refine Ev.step (f := fun _ => some true) (fun k => ?_) (Ev.now _)
    simp only [wal_in.l0]
    rw [if_neg (by omega)]
  | cons c r ih =>
    intro i hd hi'
    obtain ⟨hrd, hlt, hd'⟩ := rd_cons l i c r hd
    unfold inF
    by_cases h1 : c < lo
    · rw [if_pos h1]
      refine Ev.step (f := fun _ => some false) (fun k => ?_) (Ev.now _)
      simp only [wal_in.l0]
      rw [if_pos (by omega), if_pos (by omega), if_pos (by omega), hrd, if_pos h1]
    rw [if_neg h1]
    by_cases h2 : c > hi
    · rw [if_pos h2]
      refine Ev.step (f := fun _ => some false) (fun k => ?_) (Ev.now _)
      simp only [wal_in.l0]
      rw [if_pos (by omega), if_pos (by omega), if_pos (by omega), hrd, if_neg h1, if_pos h2]
    rw [if_neg h2]
    refine Ev.step (fun k => ?_) (ih (i + 1) hd' (by omega))
    simp only [wal_in.l0]
    rw [if_pos (by omega), if_pos (by omega), if_pos (by omega), hrd, if_neg h1, if_neg h2, wrap64_eq (by omega) (by omega)]
    rfl
theorem In_ev (lo hi : Int) (l : List Int) (hl : l.length ≤ 140737488355328) : Ev (fun k => wal_in.f k lo hi l) (inF lo hi l) := In_loop lo hi l l hl 0 rfl (by omega)

theorem rdNum_ev (l : List Int) (hb : Bytes l) (bad : Bool) : Ev (fun k => rdNum k l bad) (rdN l bad) := by
  unfold rdNum rdN
  refine Ev.bind (Get_ev l hb) ?_
  have hok := numGet_ok l hb
  by_cases h : (numGet 0 0 l).2.2 = 0
  · have := hok h
    simp only [if_pos h]
    exact Ev.congr (fun k => if_pos (by omega)) (Ev.now _)
  · simp only [if_neg h]
    exact Ev.now _
theorem getText_len (l : List Int) (hb : Bytes l) (h : (getText l).2.2 = 0) : 0 ≤ (getText l).2.1 ∧ (getText l).2.1 ≤ l.length := by
  unfold getText at h ⊢
  by_cases h1 : (numGet 0 0 l).2.2 = 0
  · rw [if_pos h1] at h ⊢
    have hk := numGet_ok l hb h1
    generalize numGet 0 0 l = q at *
    obtain ⟨n, m, e⟩ := q
    simp only at *
    by_cases h2 : n < 0 ∨ n > 1048576
    · rw [if_pos h2] at h; simp at h
    rw [if_neg h2] at h ⊢
    by_cases h3 : n > (l.length : Int) - m
    · rw [if_pos h3] at h; simp at h
    rw [if_neg h3]
    simp only
    omega
  · rw [if_neg h1] at h
    exact absurd h h1
theorem rdText_ev (l : List Int) (hb : Bytes l) (hl : l.length ≤ 140737488355328) (bad : Bool) : Ev (fun k => rdText k l bad) (rdT l bad) := by
  unfold rdText rdT
  refine Ev.bind (GetText_ev l hb hl) ?_
  have hok := getText_len l hb
  by_cases h : (getText l).2.2 = 0
  · have := hok h
    simp only [if_pos h]
    exact Ev.congr (fun k => if_pos (by omega)) (Ev.now _)
  · simp only [if_neg h]
    exact Ev.now _

theorem May_ev (hard : Bool) (t v i u q : Int) (d : ByteArray) : Ev (fun k => wal_May.f k hard t v i u q d) (mayF hard t v i u q d) := by
  unfold wal_May.f mayF
  cases hard with
  | true =>
    simp only [if_true]
    refine Ev.bind (In_ev 0 1099511627776 [t] (by simp)) ?_
    by_cases h1 : inF 0 1099511627776 [t] = true
    · rw [h1]
      by_cases h2 : v ≥ 0
      · by_cases h3 : v ≤ 7
        · exact Ev.congr (fun k => by rw [if_pos rfl, if_pos h2, if_pos h3]) (by rw [decide_eq_true h2, decide_eq_true h3]; exact Ev.now _)
        · exact Ev.congr (fun k => by rw [if_pos rfl, if_pos h2, if_neg h3]) (by rw [decide_eq_false h3]; simp only [Bool.and_false, Bool.false_and]; exact Ev.now _)
      · exact Ev.congr (fun k => by rw [if_pos rfl, if_neg h2]) (by rw [decide_eq_false h2]; simp only [Bool.and_false, Bool.false_and]; exact Ev.now _)
    · rw [Bool.eq_false_iff.2 h1]
      exact Ev.congr (fun k => if_neg (by simp)) (by simp only [Bool.false_and]; exact Ev.now _)
  | false =>
    simp only [Bool.false_eq_true, if_false]
    by_cases h0 : (t == 0 && v == 0) = true
    · rw [h0]
      refine Ev.congr (fun k => if_pos rfl) ?_
      refine Ev.bind (In_ev 1 1099511627776 [i, u] (by simp)) ?_
      by_cases h1 : inF 1 1099511627776 [i, u] = true
      · rw [h1]
        by_cases h2 : q ≥ 1
        · by_cases h3 : q ≤ 3
          · exact Ev.congr (fun k => by rw [if_pos rfl, if_pos h2, if_pos h3]) (by rw [decide_eq_true h2, decide_eq_true h3]; simp only [Bool.true_and]; exact Ev.now _)
          · exact Ev.congr (fun k => by rw [if_pos rfl, if_pos h2, if_neg h3]) (by rw [decide_eq_false h3]; simp only [Bool.and_false, Bool.false_and]; exact Ev.now _)
        · exact Ev.congr (fun k => by rw [if_pos rfl, if_neg h2]) (by rw [decide_eq_false h2]; simp only [Bool.and_false, Bool.false_and]; exact Ev.now _)
      · rw [Bool.eq_false_iff.2 h1]
        exact Ev.congr (fun k => if_neg (by simp)) (by simp only [Bool.and_false, Bool.false_and]; exact Ev.now _)
    · rw [Bool.eq_false_iff.2 h0]
      exact Ev.congr (fun k => if_neg (by simp)) (by simp only [Bool.false_and]; exact Ev.now _)

theorem open_body {l : List Int} (hb : Bytes l) (h0 : (openF l).2.2.2 = 0) : Bytes (openF l).2.1 ∧ (openF l).2.1.length ≤ 4000 := by
  obtain ⟨h1, h2, h3, h4, h5, h6⟩ := openF_frame hb h0
  refine ⟨?_, h3⟩
  have hf : Bytes (frameF (openF l).1 (openF l).2.1) := h6 ▸ hb.take _
  unfold frameF at hf
  exact Bytes.right (Bytes.right hf)
theorem Decode_ev (l : List Int) (hb : Bytes l) (hl : l.length ≤ 140737488355328 - 1) : Ev (fun k => wal_Decode.f k l) (decF l) := by
  unfold wal_Decode.f decF
  refine Ev.bind (Open_ev l hb hl) ?_
  by_cases h0 : (openF l).2.2.2 = 0
  · simp only [if_pos h0]
    obtain ⟨b1, l1⟩ := open_body hb h0
    by_cases h1 : (openF l).1 = 1
    · simp only [if_pos h1]
      refine Ev.bind (rdNum_ev _ b1 false) (Ev.bind (rdNum_ev _ (rdN_bytes b1 _) _) ?_)
      by_cases h2 : (!(rdN (rdN (openF l).2.1 false).2.1 (rdN (openF l).2.1 false).2.2).2.2 && (rdN (rdN (openF l).2.1 false).2.1 (rdN (openF l).2.1 false).2.2).2.1.isEmpty) = true
      · simp only [if_pos h2]
        refine Ev.bind (May_ev _ _ _ _ _ _ _) ?_
        split
        · exact Ev.now _
        · exact Ev.now _
      · simp only [if_neg h2]
        exact Ev.now _
    · simp only [if_neg h1]
      by_cases h1' : (openF l).1 = 2
      · simp only [if_pos h1']
        have l2 := rdN_len (l := (openF l).2.1) false
        have b2 := rdN_bytes b1 false
        refine Ev.bind (rdNum_ev _ b1 false) ?_
        generalize rdN (openF l).2.1 false = s1 at *
        have l3 := rdN_len (l := s1.2.1) s1.2.2
        have b3 := rdN_bytes b2 s1.2.2
        refine Ev.bind (rdNum_ev _ b2 _) ?_
        generalize rdN s1.2.1 s1.2.2 = s2 at *
        have l4 := rdN_len (l := s2.2.1) s2.2.2
        have b4 := rdN_bytes b3 s2.2.2
        refine Ev.bind (rdNum_ev _ b3 _) ?_
        generalize rdN s2.2.1 s2.2.2 = s3 at *
        refine Ev.bind (rdText_ev _ b4 (by omega) _) ?_
        generalize rdT s3.2.1 s3.2.2 = s4 at *
        by_cases h2 : (!s4.2.2 && s4.2.1.isEmpty) = true
        · simp only [if_pos h2]
          refine Ev.bind (May_ev _ _ _ _ _ _ _) ?_
          split
          · exact Ev.now _
          · exact Ev.now _
        · simp only [if_neg h2]
          exact Ev.now _
      · simp only [if_neg h1']
        exact Ev.now _
  · simp only [if_neg h0]
    exact Ev.now _

theorem Encode_ev (hard : Bool) {t v i u q : Int} (d : ByteArray) (ht : -9223372036854775808 ≤ t ∧ t ≤ 9223372036854775807) (hv : -9223372036854775808 ≤ v ∧ v ≤ 9223372036854775807) (hi : -9223372036854775808 ≤ i ∧ i ≤ 9223372036854775807) (hu : -9223372036854775808 ≤ u ∧ u ≤ 9223372036854775807) (hq : -9223372036854775808 ≤ q ∧ q ≤ 9223372036854775807) :
    Ev (fun k => wal_Encode.f k hard t v i u q d) (encodeF hard t v i u q d) := by
  unfold wal_Encode.f encodeF
  refine Ev.bind (May_ev _ _ _ _ _ _ _) ?_
  by_cases h : mayF hard t v i u q d = true
  · have hl := bodyF_len h
    have hbb := bodyF_bytes hard t v i u q d
    rw [if_pos h, h]
    refine Ev.congr (fun k => if_pos rfl) ?_
    cases hard with
    | true =>
      have z1 := zig_i64 ht
      refine Ev.congr (fun k => if_pos rfl) ?_
      refine Ev.bind (Put_ev [] ht.1 ht.2 (by simp)) (Ev.bind (Put_ev _ hv.1 hv.2 (by rw [List.nil_append]; omega)) ?_)
      rw [List.nil_append]
      refine Ev.bind (Seal_ev 1 (enc (zig t) ++ enc (zig v)) (by decide) hbb (by simp only [bodyF, if_true] at hl; omega)) ?_
      have e : sealF 1 (enc (zig t) ++ enc (zig v)) = frameF 1 (enc (zig t) ++ enc (zig v)) := by
        simp only [bodyF, if_true] at hl
        unfold sealF; rw [if_neg (by omega)]
      rw [e]
      exact Ev.now _
    | false =>
      have z1 := zig_i64 hi
      have z2 := zig_i64 hu
      have z3 := zig_i64 hq
      obtain ⟨_, _, _, _, _, hd⟩ := may_entry h
      refine Ev.congr (fun k => if_neg (by simp)) ?_
      refine Ev.bind (Put_ev [] hi.1 hi.2 (by simp)) (Ev.bind (Put_ev _ hu.1 hu.2 (by rw [List.nil_append]; omega)) (Ev.bind (Put_ev _ hq.1 hq.2 (by simp only [List.length_append, List.length_nil]; omega)) (Ev.bind (PutText_ev _ d (by simp only [List.length_append, List.length_nil]; omega)) ?_)))
      rw [List.nil_append]
      have hbody : enc (zig i) ++ enc (zig u) ++ enc (zig q) ++ enc (zig (d.size : Int)) ++ bytesOf d = bodyF false t v i u q d := rfl
      rw [hbody]
      refine Ev.bind (Seal_ev 2 _ (by decide) hbb (by omega)) ?_
      have e : sealF 2 (bodyF false t v i u q d) = frameF 2 (bodyF false t v i u q d) := by unfold sealF; rw [if_neg (by omega)]
      rw [e]
      exact Ev.now _
  · rw [if_neg h, Bool.eq_false_iff.2 h]
    exact Ev.congr (fun k => if_neg (by simp)) (Ev.now _)

theorem refMay_is (hard : Bool) (t v i u q : Int) (d : ByteArray) : donatusref17_May.f hard t v i u q d = some (mayF hard t v i u q d) := by
  unfold donatusref17_May.f mayF donatusref17_MayHard.f donatusref17_EqEntry.f donatusref17_MayEntry.f
  have e0 : (⟨#[]⟩ : ByteArray).toList = [] := ByteArray.toList_eq _
  cases hard with
  | true =>
    simp only [if_true, inF, e0]
    by_cases h1 : t ≥ 0
    · rw [if_pos h1, if_neg (by omega : ¬ t < 0)]
      by_cases h2 : t ≤ 1099511627776
      · rw [if_pos h2, if_neg (by omega : ¬ t > 1099511627776)]
        by_cases h3 : v ≥ 0
        · rw [if_pos h3]
          by_cases h4 : v ≤ 7
          · simp [h3, h4]
            by_cases h5 : i = 0 <;> by_cases h6 : u = 0 <;> by_cases h7 : q = 0 <;> simp [h5, h6, h7]
          · simp [h4]
        · rw [if_neg h3]; simp [h3]
      · rw [if_neg h2, if_pos (by omega : t > 1099511627776)]; simp
    · rw [if_neg h1, if_pos (by omega : t < 0)]; simp
  | false =>
    simp only [Bool.false_eq_true, if_false, inF]
    by_cases h1 : t = 0
    · by_cases h2 : v = 0
      · rw [if_pos h1, if_pos h2]
        subst h1 h2
        by_cases h3 : i ≥ 1 <;> by_cases h4 : i ≤ 1099511627776 <;> by_cases h5 : u ≥ 1 <;> by_cases h6 : u ≤ 1099511627776 <;> by_cases h7 : q ≥ 1 <;> by_cases h8 : q ≤ 3 <;> simp [h3, h4, h5, h6, h7, h8] <;> omega
      · rw [if_pos h1, if_neg h2]; simp [h2]
    · rw [if_neg h1]; simp [h1]
theorem refPutText_any (s : ByteArray) (hl : s.size ≤ 100000) : Ev (fun k => donatusref1_PutText.f k s) (enc (zig (s.size : Int)) ++ bytesOf s) := by
  unfold donatusref1_PutText.f
  have hz := enc_len10 (zig_lt (n := (s.size : Int)) (by omega) (by omega))
  refine Ev.bind (refPut_ev (a := (s.size : Int)) (by omega) (by omega)) ?_
  exact Ev.congr (fun k => if_pos (by omega)) (Ev.now _)
theorem refEncode_ev (hard : Bool) {t v i u q : Int} (d : ByteArray) (ht : -9223372036854775808 ≤ t ∧ t ≤ 9223372036854775807) (hv : -9223372036854775808 ≤ v ∧ v ≤ 9223372036854775807) (hi : -9223372036854775808 ≤ i ∧ i ≤ 9223372036854775807) (hu : -9223372036854775808 ≤ u ∧ u ≤ 9223372036854775807) (hq : -9223372036854775808 ≤ q ∧ q ≤ 9223372036854775807) :
    Ev (fun k => donatusref17_Encode.f k hard t v i u q d) (encodeF hard t v i u q d) := by
  unfold donatusref17_Encode.f encodeF
  simp only [refMay_is, Option.bind_some]
  by_cases h : mayF hard t v i u q d = true
  · have hl := bodyF_len h
    have hbb := bodyF_bytes hard t v i u q d
    simp only [if_pos h]
    cases hard with
    | true =>
      have z1 := zig_i64 ht
      have z2 := zig_i64 hv
      simp only [if_true]
      refine Ev.bind (refPut_ev ht.1 ht.2) (Ev.bind (refPut_ev hv.1 hv.2) (Ev.congr (fun k => if_pos (by omega)) ?_))
      refine Ev.bind (refSeal_ev 1 (enc (zig t) ++ enc (zig v)) (by decide) hbb (by simp only [bodyF, if_true] at hl; omega)) ?_
      have e : sealF 1 (enc (zig t) ++ enc (zig v)) = frameF 1 (enc (zig t) ++ enc (zig v)) := by
        simp only [bodyF, if_true] at hl
        unfold sealF; rw [if_neg (by omega)]
      rw [e]
      exact Ev.now _
    | false =>
      have z1 := zig_i64 hi
      have z2 := zig_i64 hu
      have z3 := zig_i64 hq
      obtain ⟨_, _, _, _, _, hd⟩ := may_entry h
      have z4 := zig_i64 (n := (d.size : Int)) (by omega)
      simp only [Bool.false_eq_true, if_false]
      refine Ev.bind (refPut_ev hi.1 hi.2) (Ev.bind (refPut_ev hu.1 hu.2) (Ev.congr (fun k => if_pos (by omega)) ?_))
      refine Ev.bind (refPut_ev hq.1 hq.2) (Ev.congr (fun k => if_pos (by rw [List.length_append]; omega)) ?_)
      refine Ev.bind (refPutText_any d (by omega)) (Ev.congr (fun k => if_pos (by simp only [List.length_append, bytesOf_length]; omega)) ?_)
      have hbody : enc (zig i) ++ enc (zig u) ++ enc (zig q) ++ (enc (zig (d.size : Int)) ++ bytesOf d) = bodyF false t v i u q d := by simp [bodyF]
      rw [hbody]
      refine Ev.bind (refSeal_ev 2 _ (by decide) hbb (by omega)) ?_
      have e : sealF 2 (bodyF false t v i u q d) = frameF 2 (bodyF false t v i u q d) := by unfold sealF; rw [if_neg (by omega)]
      rw [e]
      exact Ev.now _
  · simp only [if_neg h]
    exact Ev.now _
theorem WCut_is (hard : Bool) (t v i u q : Int) (d : ByteArray) : ∃ d' : ByteArray, donatuslaw18_Cut.f hard t v i u q d = some (hard, t, v, i, u, q, d') ∧ d'.size ≤ 300 := by
  unfold donatuslaw18_Cut.f donatuslaw1_Cut.f
  by_cases h : (d.size : Int) > 300
  · rw [if_pos h, if_pos (by omega), if_pos (by omega)]
    exact ⟨_, rfl, by rw [ByteArray.size_extract]; omega⟩
  · rw [if_neg h]
    exact ⟨d, rfl, by omega⟩

theorem begun_ev : Ev (fun k => donatuslaw18_begun.f k) true := Ev.of (fun k => donatuslaw18_begun.mono k) (k := 100) (by decide +kernel)
theorem encode_ne {hard : Bool} {t v i u q : Int} {d : ByteArray} (h : encodeF hard t v i u q d ≠ []) : mayF hard t v i u q d = true := by
  unfold encodeF at h
  by_cases h1 : mayF hard t v i u q d = true
  · exact h1
  · rw [if_neg h1] at h; exact absurd rfl h
/-- What may be, one behind the other. -/
def May (r : S27) : Prop := mayF r.f0 r.f1.f0 r.f1.f1 r.f2.f0 r.f2.f1 r.f2.f2 r.f2.f3 = true
def encR (r : S27) : List Int := encodeF r.f0 r.f1.f0 r.f1.f1 r.f2.f0 r.f2.f1 r.f2.f2 r.f2.f3
def encAll (rs : List S27) : List Int := (rs.map encR).flatten
theorem encR_pos {r : S27} (h : May r) : 6 ≤ (encR r).length := by
  unfold May at h
  unfold encR encodeF
  rw [if_pos h]
  exact frameF_pos _ _
theorem encAll_bytes (rs : List S27) : Bytes (encAll rs) := by
  intro x hx
  simp only [encAll, List.mem_flatten, List.mem_map] at hx
  obtain ⟨l, ⟨r, _, rfl⟩, hx⟩ := hx
  exact encodeF_bytes _ _ _ _ _ _ _ x hx
theorem encAll_len (rs : List S27) : (encAll rs).length ≤ 2550 * rs.length := by
  induction rs with
  | nil => simp [encAll]
  | cons r rs ih =>
    have := encodeF_len r.f0 r.f1.f0 r.f1.f1 r.f2.f0 r.f2.f1 r.f2.f2 r.f2.f3
    simp only [encAll, List.map_cons, List.flatten_cons, List.length_append, List.length_cons] at ih ⊢
    unfold encR at *
    omega
/-- Scanning what may be, and a torn tail behind it. -/
theorem Scan_loop (l : List Int) (hb : Bytes l) (hl : l.length ≤ 1000000) (tail : List Int) (htail : tail ≠ [] → decF tail = (false, 0, 0, 0, 0, 0, ⟨#[]⟩, 0, 2)) (rs : List S27) : (∀ r ∈ rs, May r) → ∀ (out : List S32) (pos : Nat), l.drop pos = encAll rs ++ tail → pos ≤ l.length → out.length + rs.length ≤ 1000000 →
    ∃ out' : List S32, out'.length = out.length + rs.length ∧ Ev (fun k => wal_Scan.l0 k l out (pos : Int)) (out', ((pos + (encAll rs).length : Nat) : Int), true) := by
  induction rs with
  | nil =>
    intro _ out pos hd hp ho
    refine ⟨out, rfl, ?_⟩
    have hlen : (l.drop pos).length = l.length - pos := List.length_drop
    simp only [encAll, List.map_nil, List.flatten_nil, List.nil_append, List.length_nil, Nat.add_zero] at hd ⊢
    by_cases h : tail = []
    · rw [h] at hd
      have : l.length ≤ pos := by simpa using List.drop_eq_nil_iff.1 hd
      refine Ev.step (f := fun _ => some (out, (pos : Int), true)) (fun k => ?_) (Ev.now _)
      simp only [wal_Scan.l0]
      rw [if_neg (by omega)]
    · have hpos : 0 < (l.drop pos).length := by rw [hd]; exact List.length_pos_iff.2 h
      refine Ev.step (fun k => by simp only [wal_Scan.l0]; rw [if_pos (by omega), if_pos (by omega), if_pos (by omega), Int.toNat_natCast]) ?_
      have key := Decode_ev (l.drop pos) (hb.drop _) (by omega)
      rw [hd, htail h] at key
      rw [hd]
      refine Ev.bind key ?_
      simp only [show ¬((2 : Int) = 0) by decide, if_false]
      exact Ev.now _
  | cons r rs ih =>
    intro hm out pos hd hp ho
    have hr := hm r (List.mem_cons_self ..)
    have hpos := encR_pos hr
    have hlen : (l.drop pos).length = l.length - pos := List.length_drop
    have hd2 : l.drop pos = encR r ++ (encAll rs ++ tail) := by rw [hd]; simp [encAll]
    have hlen2 : (l.drop pos).length = (encR r).length + (encAll rs ++ tail).length := by rw [hd2, List.length_append]
    have hall : (encAll (r :: rs)).length = (encR r).length + (encAll rs).length := by simp [encAll]
    simp only [List.length_cons] at ho
    obtain ⟨out', ho', hev⟩ := ih (fun x hx => hm x (List.mem_cons_of_mem _ hx)) (out ++ [(⟨r.f0, ⟨r.f1.f0, r.f1.f1⟩, ⟨r.f2.f0, r.f2.f1, r.f2.f2, r.f2.f3⟩⟩ : S32)]) (pos + (encR r).length) (by rw [← List.drop_drop, hd2, List.drop_left]) (by omega) (by simp only [List.length_append, List.length_cons, List.length_nil]; omega)
    refine ⟨out', by rw [ho']; simp only [List.length_append, List.length_cons, List.length_nil]; omega, ?_⟩
    refine Ev.step (fun k => by simp only [wal_Scan.l0]; rw [if_pos (by omega), if_pos (by omega), if_pos (by omega), Int.toNat_natCast]) ?_
    have key := Decode_ev (l.drop pos) (hb.drop _) (by omega)
    rw [hd2, show decF (encR r ++ (encAll rs ++ tail)) = _ from dec_encode hr _] at key
    rw [hd2]
    refine Ev.bind key ?_
    simp only [if_true]
    refine Ev.congr (fun k => by rw [if_pos (by omega), wrap64_eq (by unfold encR at *; omega) (by unfold encR at *; omega)]) ?_
    have e : ((pos + (encR r).length : Nat) : Int) = (pos : Int) + ((encodeF r.f0 r.f1.f0 r.f1.f1 r.f2.f0 r.f2.f1 r.f2.f2 r.f2.f3).length : Int) := by unfold encR; omega
    rw [hall, ← Nat.add_assoc]
    rw [e] at hev
    exact hev
theorem dec_cut {r : S27} (h : May r) (m : Nat) (hm : m < (encR r).length) : decF ((encR r).take m) = (false, 0, 0, 0, 0, 0, ⟨#[]⟩, 0, 2) := by
  have hl := bodyF_len h
  have hk : 1 ≤ kindF r.f0 ∧ kindF r.f0 ≤ 255 := by cases r.f0 <;> simp [kindF]
  unfold May at h
  unfold encR encodeF at hm ⊢
  rw [if_pos h] at hm ⊢
  unfold decF
  rw [open_cut hk (by omega) m hm]
  rfl
theorem Torn_end (l : List S27) (cut : Int) (hc : -9223372036854775808 ≤ cut ∧ cut ≤ 9223372036854775807) (rs : List S27) (hm : ∀ r ∈ rs, May r) (hn : rs.length ≤ 8) (i : Int) :
    Ev (fun k => donatuslaw18_WalTorn.j1 k l cut (encAll rs) (rs.length : Int) ((encAll rs.dropLast).length : Int) i false) true := by
  refine Ev.step (fun k => by simp only [donatuslaw18_WalTorn.j1]; rw [if_neg (by simp)]) ?_
  have hal := encAll_len rs
  by_cases h0 : (rs.length : Int) = 0
  · exact Ev.congr (fun k => if_pos h0) (Ev.now _)
  refine Ev.congr (fun k => if_neg h0) ?_
  by_cases h1 : cut < 1
  · exact Ev.congr (fun k => if_pos h1) (Ev.now _)
  refine Ev.congr (fun k => if_neg h1) ?_
  have hne : rs ≠ [] := by intro h; rw [h] at h0; exact h0 rfl
  have hsplit := List.dropLast_concat_getLast hne
  have hlast := hm _ (List.getLast_mem hne)
  generalize rs.getLast hne = r at hsplit hlast
  have hinit : ∀ x ∈ rs.dropLast, May x := fun x hx => hm x (List.dropLast_subset _ hx)
  have hil : rs.dropLast.length = rs.length - 1 := List.length_dropLast
  generalize rs.dropLast = init at hsplit hinit hil ⊢
  have he : encAll rs = encAll init ++ encR r := by rw [← hsplit]; simp [encAll]
  have hel : (encAll rs).length = (encAll init).length + (encR r).length := by rw [he, List.length_append]
  have hw : wrap64 (((encAll rs).length : Int) - ((encAll init).length : Int)) = ((encR r).length : Int) := by rw [wrap64_eq (by omega) (by omega)]; omega
  by_cases h2 : cut ≥ ((encR r).length : Int)
  · exact Ev.congr (fun k => if_pos (by rw [hw]; exact h2)) (Ev.now _)
  have hw2 : wrap64 (((encAll rs).length : Int) - cut) = (((encAll init).length + ((encR r).length - cut.toNat) : Nat) : Int) := by rw [wrap64_eq (by omega) (by omega)]; omega
  refine Ev.congr (fun k => by rw [if_neg (by rw [hw]; exact h2), hw2, if_pos (by omega), if_pos (by omega), Int.toNat_natCast]) ?_
  have ht : (encAll rs).take ((encAll init).length + ((encR r).length - cut.toNat)) = encAll init ++ (encR r).take ((encR r).length - cut.toNat) := by rw [he, List.take_length_add_append]
  have hbt : Bytes ((encAll rs).take ((encAll init).length + ((encR r).length - cut.toNat))) := (encAll_bytes rs).take _
  have hlt : ((encAll rs).take ((encAll init).length + ((encR r).length - cut.toNat))).length ≤ 1000000 := Nat.le_trans (List.length_take_le ..) (by omega)
  obtain ⟨out', ho', hev⟩ := Scan_loop _ hbt hlt ((encR r).take ((encR r).length - cut.toNat)) (fun _ => dec_cut hlast _ (by omega)) init hinit [] 0 (by rw [List.drop_zero]; exact ht) (by omega) (by simp only [List.length_nil]; omega)
  refine Ev.bind (f := fun k (bt370 : List S32 × Int × Bool) => if (bt370.1.length : Int) = (wrap64 ((rs.length : Int) - 1)) then (if bt370.2.1 = ((encAll init).length : Int) then (some bt370.2.2) else (none)) else (none)) hev ?_
  simp only [List.length_nil, Nat.zero_add] at ho'
  refine Ev.congr (fun k => by rw [wrap64_eq (by omega) (by omega), if_pos (by simp only; omega), if_pos (by simp only; omega)]) (Ev.now _)
theorem Torn_loop (l : List S27) (cut : Int) (hc : -9223372036854775808 ≤ cut ∧ cut ≤ 9223372036854775807) (hwf : ∀ r ∈ l, ((-9223372036854775808 ≤ r.f1.f0 ∧ r.f1.f0 ≤ 9223372036854775807) ∧ (-9223372036854775808 ≤ r.f1.f1 ∧ r.f1.f1 ≤ 9223372036854775807) ∧ (-9223372036854775808 ≤ r.f2.f0 ∧ r.f2.f0 ≤ 9223372036854775807) ∧ (-9223372036854775808 ≤ r.f2.f1 ∧ r.f2.f1 ≤ 9223372036854775807) ∧ (-9223372036854775808 ≤ r.f2.f2 ∧ r.f2.f2 ≤ 9223372036854775807))) (d : Nat) :
    ∀ (i : Nat) (rs : List S27), 8 - i = d → i ≤ 8 → (∀ r ∈ rs, May r) → rs.length ≤ i → Ev (fun k => donatuslaw18_WalTorn.l0 k l cut (encAll rs) (rs.length : Int) ((encAll rs.dropLast).length : Int) (i : Int)) true := by
  induction d with
  | zero =>
    intro i rs hd hi hm hn
    have h8 : i = 8 := by omega
    subst h8
    refine Ev.step (fun k => ?_) (Torn_end l cut hc rs hm hn 8)
    simp only [donatuslaw18_WalTorn.l0]
    split <;> rfl
  | succ d ih =>
    intro i rs hd hi hm hn
    by_cases h : i < l.length
    · refine Ev.step (fun k => by simp only [donatuslaw18_WalTorn.l0]; rw [if_pos (by omega), show decide ((i : Int) < 8) = true by simp; omega]) ?_
      refine Ev.step (fun k => by simp only [donatuslaw18_WalTorn.j1]; rw [if_pos trivial, if_pos (by omega), if_pos (by omega)]) ?_
      have hrd : rd_T27 l (i : Int) = l[i] := by simp [rd_T27, List.getD_eq_getElem?_getD, List.getElem?_eq_getElem h]
      rw [hrd]
      obtain ⟨w1, w2, w3, w4, w5⟩ := hwf _ (List.getElem_mem h)
      generalize l[i] = r at w1 w2 w3 w4 w5
      obtain ⟨d', hd', _⟩ := WCut_is r.f0 r.f1.f0 r.f1.f1 r.f2.f0 r.f2.f1 r.f2.f2 r.f2.f3
      simp only [hd', Option.bind_some]
      refine Ev.bind (refEncode_ev r.f0 d' w1 w2 w3 w4 w5) ?_
      have hal := encAll_len rs
      have hel := encodeF_len r.f0 r.f1.f0 r.f1.f1 r.f2.f0 r.f2.f1 r.f2.f2 d'
      by_cases h0 : encodeF r.f0 r.f1.f0 r.f1.f1 r.f2.f0 r.f2.f1 r.f2.f2 d' = []
      · refine Ev.congr (fun k => by rw [h0, if_pos (by simp), wrap64_eq (by omega) (by omega)]; rfl) (ih (i + 1) rs (by omega) (by omega) hm (by omega))
      · have hpos := List.length_pos_iff.2 h0
        refine Ev.congr (fun k => by rw [if_neg (by omega), if_pos (by omega), wrap64_eq (by omega) (by omega), wrap64_eq (by omega) (by omega)]) ?_
        have key := ih (i + 1) (rs ++ [(⟨r.f0, r.f1, ⟨r.f2.f0, r.f2.f1, r.f2.f2, d'⟩⟩ : S27)]) (by omega) (by omega) (by
          intro x hx
          rcases List.mem_append.1 hx with hx | hx
          · exact hm x hx
          · simp only [List.mem_singleton] at hx
            subst hx
            exact encode_ne h0) (by simp only [List.length_append, List.length_cons, List.length_nil]; omega)
        rw [List.dropLast_concat] at key
        have e1 : encAll (rs ++ [(⟨r.f0, r.f1, ⟨r.f2.f0, r.f2.f1, r.f2.f2, d'⟩⟩ : S27)]) = encAll rs ++ encodeF r.f0 r.f1.f0 r.f1.f1 r.f2.f0 r.f2.f1 r.f2.f2 d' := by simp [encAll, encR]
        rw [e1, show (((rs ++ [(⟨r.f0, r.f1, ⟨r.f2.f0, r.f2.f1, r.f2.f2, d'⟩⟩ : S27)]).length : Nat) : Int) = (rs.length : Int) + 1 by simp] at key
        exact key
    · refine Ev.step (fun k => ?_) (Torn_end l cut hc rs hm (by omega) (i : Int))
      simp only [donatuslaw18_WalTorn.l0]
      rw [if_neg (by omega)]
theorem WalTorn : donatuslaw18_WalTorn.Pure := by
  intro l cut hl hc
  have hc := i64_bd hc
  refine Ev.rounds (r := true) ?_
  unfold donatuslaw18_WalTorn.f
  refine Ev.bind begun_ev ?_
  refine Ev.congr (fun k => if_pos rfl) ?_
  refine Torn_loop l cut hc ?_ 8 0 [] rfl (by omega) (by intro r hr; cases hr) (by simp)
  intro r hr
  obtain ⟨_, ⟨h1, h2⟩, h3, h4, h5, _⟩ := hl.2.2 r hr
  exact ⟨i64_bd h1, i64_bd h2, i64_bd h3, i64_bd h4, i64_bd h5⟩

end Go.Proofs.Ytoamlagpnnmnhab.Pure
