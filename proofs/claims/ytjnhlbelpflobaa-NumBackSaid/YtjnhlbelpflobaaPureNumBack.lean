/- NumBack: any number and any text go to the bytes that the document says, and back, whatever stands ahead and behind. -/
import Derived.Test.YtjnhlbelpflobaaPNumBackx3
import Derived.Test.YtjnhlbelpflobaaFrame
namespace Go.Proofs.Ytjnhlbelpflobaa.Pure
open Go.RowKit Go.Proofs.Ytjnhlbelpflobaa.PNumBack Go.Proofs.YtjnhlbelpflobaaW.PrintWords Go.Proofs.YtjnhlbelpflobaaW.PrintLast Go.Proofs.YtjnhlbelpflobaaW.PrintMore Go.Proofs.Ytjnhlbelpflobaa.Spec

theorem Put_loop (u : Nat) : ∀ (l : List Int), l.length + (enc u).length ≤ 140737488355328 → Ev (fun k => num_Put.l0 k l (u : Int)) (l ++ enc u) := by
  induction u using Nat.strongRecOn with
  | _ u ih =>
    intro l hl
    have hp := enc_pos u
    by_cases h : u < 128
    · refine Ev.step (f := fun _ => some (l ++ enc u)) (fun k => ?_) (Ev.now _)
      simp only [num_Put.l0]
      rw [if_neg (by omega), if_pos (by omega), enc_small h, show (u : Int) % 256 = (u : Int) from by omega]
    · refine Ev.step (f := fun k => num_Put.l0 k (l ++ [((u % 128 + 128 : Nat) : Int)]) ((u / 128 : Nat) : Int)) (fun k => ?_) ?_
      · simp only [num_Put.l0]
        rw [if_pos (by omega), if_pos (by omega), or128 (by omega) (by omega)]
        congr 2
        · congr 1
          omega
      · have e : l ++ enc u = (l ++ [((u % 128 + 128 : Nat) : Int)]) ++ enc (u / 128) := by rw [enc_step (by omega)]; simp
        rw [e]
        refine ih (u / 128) (by omega) _ ?_
        rw [enc_step (u := u) (by omega), List.length_cons] at hl
        simp only [List.length_append, List.length_cons, List.length_nil]
        omega
theorem Put_ev (l : List Int) {a : Int} (h0 : -9223372036854775808 ≤ a) (h1 : a ≤ 9223372036854775807) (hl : l.length + 10 ≤ 140737488355328) : Ev (fun k => num_Put.f k l a) (l ++ enc (zig a)) := by
  have hz := enc_len10 (zig_lt h0 h1)
  have key : Ev (fun k => num_Put.j0 k l ((zig a : Nat) : Int)) (l ++ enc (zig a)) := Ev.step (fun k => rfl) (Put_loop _ _ (by omega))
  refine Ev.congr (fun k => ?_) key
  unfold num_Put.f
  by_cases h : a < 0
  · rw [if_pos h, wrap_u64, wrap_u64, not_u64 (by omega) (by omega)]
    congr 1
    unfold zig
    rw [if_pos h]
    omega
  · rw [if_neg h, wrap_u64, wrap_u64]
    congr 1
    unfold zig
    rw [if_neg h]
    omega

theorem Get_loop (l : List Int) (hb : ∀ x ∈ l, 0 ≤ x ∧ x < 256) (r : List Int) : ∀ (i u : Nat), l.drop i = r → u < 2 ^ (7 * i) → i ≤ 9 → Ev (fun k => num_Get.l0 k (u : Int) l (l.length : Int) (i : Int)) (numGet i u r) := by
  induction r with
  | nil =>
    intro i u hd hu hi
    have hge : l.length ≤ i := by simpa using List.drop_eq_nil_iff.1 hd
    refine Ev.step (f := fun _ => some (0, 0, 2)) (fun k => ?_) (Ev.now _)
    simp only [num_Get.l0]
    rw [if_neg (by omega)]
  | cons c r ih =>
    intro i u hd hu hi
    obtain ⟨hrd, hlt, hd'⟩ := rd_cons l i c r hd
    have hc : 0 ≤ c ∧ c < 256 := hb c (List.mem_of_mem_drop (by rw [hd]; exact List.mem_cons_self ..))
    have hpw : (2 : Nat) ^ (7 * i) ≤ 2 ^ 63 := Nat.pow_le_pow_right (by decide) (by omega)
    have hw : wrap64 (7 * (i : Int)) = ((7 * i : Nat) : Int) := by rw [wrap64_eq (by omega) (by omega)]; omega
    have hsmall : ¬(i = 9 ∧ c > 1) → (c % 128) * 2 ^ (7 * i) < 2 ^ 64 := by
      intro h
      have : ((c % 128).toNat) * 2 ^ (7 * i) < 2 ^ 64 := by
        rcases Nat.lt_or_ge i 9 with h9 | h9
        · have h5 : (2 : Nat) ^ (7 * i) ≤ 2 ^ 56 := Nat.pow_le_pow_right (by decide) (by omega)
          have := Nat.mul_le_mul (show (c % 128).toNat ≤ 127 by omega) h5
          omega
        · have h10 : i = 9 := by omega
          subst h10
          have := Nat.mul_le_mul (show (c % 128).toNat ≤ 1 by omega) (Nat.le_refl (2 ^ (7 * 9)))
          omega
      have ec : (((c % 128).toNat : Nat) : Int) = c % 128 := by omega
      have e : ((c % 128) * 2 ^ (7 * i) : Int) = (((c % 128).toNat * 2 ^ (7 * i) : Nat) : Int) := by
        rw [Int.natCast_mul, ec]
        simp
      rw [e]
      exact_mod_cast this
    have hacc : ¬(i = 9 ∧ c > 1) → Go.bits .or .u64 (u : Int) (shl .u64 (IntKind.u64.wrap (Go.bits .and .u8 c 127)) (wrap64 (7 * (i : Int)))) = ((u + (c % 128).toNat * 2 ^ (7 * i) : Nat) : Int) := by
      intro h
      rw [and127 hc.1 hc.2, wrap_u64, show c % 128 % 18446744073709551616 = c % 128 by omega, hw, or_join (7 * i) (by omega) (by exact_mod_cast hu) (by omega) (by omega) (hsmall h)]
      have ec : (((c % 128).toNat : Nat) : Int) = c % 128 := by omega
      rw [Int.natCast_add, Int.natCast_mul, ec]
      simp
    have hlim : ¬(i = 9 ∧ c > 1) → u + (c % 128).toNat * 2 ^ (7 * i) < 18446744073709551616 := by
      intro h
      rcases Nat.lt_or_ge i 9 with h9 | h9
      · have h5 : (2 : Nat) ^ (7 * i) ≤ 2 ^ 56 := Nat.pow_le_pow_right (by decide) (by omega)
        have := Nat.mul_le_mul (show (c % 128).toNat ≤ 127 by omega) h5
        omega
      · have h10 : i = 9 := by omega
        subst h10
        have := Nat.mul_le_mul (show (c % 128).toNat ≤ 1 by omega) (Nat.le_refl (2 ^ (7 * 9)))
        omega
    refine Ev.step (f := fun k => num_Get.j1 k (u : Int) (i : Int) c l (l.length : Int) (i : Int) (decide (i = 9 ∧ c > 1))) (fun k => ?_) ?_
    · simp only [num_Get.l0]
      rw [if_pos (by omega), if_pos (by omega), if_pos (by omega), hrd]
      by_cases h9 : i = 9
      · rw [if_pos (by omega)]
        congr 1
        simp [h9]
      · rw [if_neg (by omega)]
        congr 1
        simp [h9]
    · rw [numGet]
      by_cases h1 : i = 9 ∧ c > 1
      · rw [if_pos h1]
        refine Ev.step (f := fun _ => some (0, 0, 1)) (fun k => ?_) (Ev.now _)
        simp only [num_Get.j1]
        rw [if_pos (by simpa using h1)]
      · rw [if_neg h1]
        have hacc' := hacc h1
        have hlim' := hlim h1
        by_cases h2 : c > 127
        · rw [if_pos h2]
          have e2 : 2 ^ (7 * (i + 1)) = 128 * 2 ^ (7 * i) := by rw [Nat.mul_add, Nat.pow_add, Nat.mul_comm]
          have hu' : u + (c % 128).toNat * 2 ^ (7 * i) < 2 ^ (7 * (i + 1)) := by
            rw [e2]
            have : (c % 128).toNat * 2 ^ (7 * i) ≤ 127 * 2 ^ (7 * i) := Nat.mul_le_mul_right _ (by omega)
            omega
          refine Ev.step (f := fun k => num_Get.l0 k ((u + (c % 128).toNat * 2 ^ (7 * i) : Nat) : Int) l (l.length : Int) ((i + 1 : Nat) : Int)) (fun k => ?_) (ih (i + 1) _ hd' hu' (by omega))
          simp only [num_Get.j1]
          rw [if_neg (by simpa using h1), if_pos (by rw [hw]; omega), if_pos h2, hacc', wrap64_eq (by omega) (by omega)]
          rfl
        · rw [if_neg h2]
          have hcm : (c % 128).toNat = c.toNat := by omega
          rw [hcm] at hacc' hlim'
          have fin : Ev (fun k => num_Get.j2 k ((u + c.toNat * 2 ^ (7 * i) : Nat) : Int) (i : Int) (decide (0 < i ∧ c = 0))) (if 0 < i ∧ c = 0 then (0, 0, 1) else (zag (u + c.toNat * 2 ^ (7 * i)), (i : Int) + 1, 0)) := by
            by_cases h3 : 0 < i ∧ c = 0
            · rw [if_pos h3]
              refine Ev.step (f := fun _ => some (0, 0, 1)) (fun k => ?_) (Ev.now _)
              simp only [num_Get.j2]
              rw [if_pos (by simpa using h3)]
            · rw [if_neg h3]
              refine Ev.step (f := fun _ => some (zag (u + c.toNat * 2 ^ (7 * i)), (i : Int) + 1, 0)) (fun k => ?_) (Ev.now _)
              simp only [num_Get.j2]
              rw [if_neg (by simpa using h3), and1_u64 (by omega) (by omega), wrap64_eq (n := (i : Int) + 1) (by omega) (by omega)]
              generalize u + c.toNat * 2 ^ (7 * i) = m at hlim'
              unfold zag
              by_cases h4 : m % 2 = 1
              · rw [if_pos (by omega), if_pos h4, wrap64_eq (by omega) (by omega), not_i64 (by omega) (by omega)]
                congr 3
              · rw [if_neg (by omega), if_neg h4, wrap64_eq (by omega) (by omega)]
                congr 3
          refine Ev.step (fun k => ?_) fin
          simp only [num_Get.j1]
          rw [if_neg (by simpa using h1), if_pos (by rw [hw]; omega), if_neg h2, hacc']
          by_cases h3 : 0 < i
          · rw [if_pos (by omega)]
            congr 1
            simp [h3, Bool.beq_eq_decide_eq]
          · rw [if_neg (by omega)]
            congr 1
            simp [h3]
theorem Get_ev (l : List Int) (hb : ∀ x ∈ l, 0 ≤ x ∧ x < 256) : Ev (fun k => num_Get.f k l) (numGet 0 0 l) :=
  Get_loop l hb l 0 0 rfl (by simp) (by omega)

theorem GetText_ev (l : List Int) (hb : ∀ x ∈ l, 0 ≤ x ∧ x < 256) (hl : l.length ≤ 140737488355328) : Ev (fun k => num_GetText.f k l) (getText l) := by
  unfold num_GetText.f
  refine Ev.bind (Get_ev l hb) ?_
  unfold getText
  by_cases h : (numGet 0 0 l).2.2 = 0
  · have hok := numGet_ok l hb h
    generalize numGet 0 0 l = q at *
    obtain ⟨n, m, e⟩ := q
    simp only at *
    subst h
    have key : Ev (fun k => num_GetText.j0 k l n m (decide (n < 0 ∨ n > 1048576))) (if n < 0 ∨ n > 1048576 then ((⟨#[]⟩ : ByteArray), 0, 1)
        else if n > (l.length : Int) - m then (⟨#[]⟩, 0, 2) else (strOfNums ((l.drop m.toNat).take n.toNat), m + n, 0)) := by
      by_cases h1 : n < 0 ∨ n > 1048576
      · rw [if_pos h1]
        refine Ev.step (f := fun _ => some ((⟨#[]⟩ : ByteArray), 0, 1)) (fun k => ?_) (Ev.now _)
        simp only [num_GetText.j0]
        rw [if_pos (by simpa using h1)]
      · rw [if_neg h1]
        by_cases h2 : n > (l.length : Int) - m
        · rw [if_pos h2]
          refine Ev.step (f := fun _ => some ((⟨#[]⟩ : ByteArray), 0, 2)) (fun k => ?_) (Ev.now _)
          simp only [num_GetText.j0]
          rw [if_neg (by simpa using h1), if_pos (by rw [wrap64_eq (by omega) (by omega)]; exact h2)]
        · rw [if_neg h2]
          refine Ev.step (f := fun _ => some (strOfNums ((l.drop m.toNat).take n.toNat), m + n, 0)) (fun k => ?_) (Ev.now _)
          simp only [num_GetText.j0]
          have hw : wrap64 (m + n) = m + n := wrap64_eq (by omega) (by omega)
          rw [if_neg (by simpa using h1), if_neg (by rw [wrap64_eq (by omega) (by omega)]; exact h2), if_pos (by omega), hw, if_pos (by omega), if_pos (by omega)]
          rw [List.drop_take, show (m + n).toNat - m.toNat = n.toNat by omega]
    simp only [if_true]
    refine Ev.congr (fun k => ?_) key
    by_cases h1 : n < 0
    · rw [if_pos h1]; congr 1; simp [h1]
    · rw [if_neg h1]; congr 1; simp [h1]
  · simp only [if_neg h]
    exact Ev.now _

theorem PutText_ev (l : List Int) (s : ByteArray) (hl : l.length + 10 + s.size < 140737488355328) : Ev (fun k => num_PutText.f k l s) (l ++ enc (zig (s.size : Int)) ++ bytesOf s) := by
  unfold num_PutText.f
  have hz := enc_len10 (zig_lt (n := (s.size : Int)) (by omega) (by omega))
  refine Ev.bind (Put_ev l (a := (s.size : Int)) (by omega) (by omega) (by omega)) ?_
  refine Ev.congr (fun k => if_pos ?_) (Ev.now _)
  rw [List.length_append]
  omega

theorem refPut_loop (u : Nat) : ∀ (l : List Int), u < 18446744073709551616 → l.length + (enc u).length ≤ 140737488355328 → Ev (fun k => donatusref1_Put.l0 k (u : Int) l) (l ++ enc u) := by
  induction u using Nat.strongRecOn with
  | _ u ih =>
    intro l hu hl
    have hp := enc_pos u
    by_cases h : u < 128
    · refine Ev.step (f := fun _ => some (l ++ enc u)) (fun k => ?_) (Ev.now _)
      simp only [donatusref1_Put.l0]
      rw [if_neg (by omega), if_pos (by omega), enc_small h, show (u : Int) % 256 = (u : Int) from by omega]
    · refine Ev.step (f := fun k => donatusref1_Put.l0 k ((u / 128 : Nat) : Int) (l ++ [((u % 128 + 128 : Nat) : Int)])) (fun k => ?_) ?_
      · simp only [donatusref1_Put.l0]
        rw [if_pos (by omega), if_pos (by omega), Int.tmod_eq_emod_of_nonneg (by omega), Int.tdiv_eq_ediv_of_nonneg (by omega), wrap_u64, wrap_u64]
        have e1 : (u : Int) / 128 % 18446744073709551616 = ((u / 128 : Nat) : Int) := by omega
        have e2 : ((u : Int) % 128 + 128) % 18446744073709551616 % 256 = ((u % 128 + 128 : Nat) : Int) := by omega
        rw [e1, e2]
      · have e : l ++ enc u = (l ++ [((u % 128 + 128 : Nat) : Int)]) ++ enc (u / 128) := by rw [enc_step (by omega)]; simp
        rw [e]
        refine ih (u / 128) (by omega) _ (by omega) ?_
        rw [enc_step (u := u) (by omega), List.length_cons] at hl
        simp only [List.length_append, List.length_cons, List.length_nil]
        omega
theorem refPut_ev {a : Int} (h0 : -9223372036854775808 ≤ a) (h1 : a ≤ 9223372036854775807) : Ev (fun k => donatusref1_Put.f k a) (enc (zig a)) := by
  have hz := enc_len10 (zig_lt h0 h1)
  have key : Ev (fun k => donatusref1_Put.j0 k ((zig a : Nat) : Int)) ([] ++ enc (zig a)) := Ev.step (fun k => rfl) (refPut_loop _ [] (zig_lt h0 h1) (by simp only [List.length_nil]; omega))
  rw [List.nil_append] at key
  refine Ev.congr (fun k => ?_) key
  unfold donatusref1_Put.f
  by_cases h : a < 0
  · rw [if_pos h, wrap_u64, wrap_u64, not_u64 (by omega) (by omega)]
    congr 1
    unfold zig
    rw [if_pos h]
    omega
  · rw [if_neg h, wrap_u64, wrap_u64]
    congr 1
    unfold zig
    rw [if_neg h]
    omega

theorem refPutText_ev (s : ByteArray) (hl : s.size ≤ 1000) : Ev (fun k => donatusref1_PutText.f k s) (enc (zig (s.size : Int)) ++ bytesOf s) := by
  unfold donatusref1_PutText.f
  have hz := enc_len10 (zig_lt (n := (s.size : Int)) (by omega) (by omega))
  refine Ev.bind (refPut_ev (a := (s.size : Int)) (by omega) (by omega)) ?_
  refine Ev.congr (fun k => if_pos ?_) (Ev.now _)
  omega

theorem Short_is (l : List Int) (n : Nat) (_hn : n ≤ 1000) : donatuslaw1_Short.f l (n : Int) = some (l.take n) := by
  unfold donatuslaw1_Short.f
  by_cases h : (l.length : Int) > (n : Int)
  · rw [if_pos h, if_pos (by omega), if_pos (by omega)]; rfl
  · rw [if_neg h, List.take_of_length_le (by omega)]

theorem begun_ev : Ev (fun k => donatuslaw1_begun.f k) true := Ev.of (fun k => donatuslaw1_begun.mono k) (k := 20) (by decide +kernel)
theorem Cut_is (s : ByteArray) : ∃ t : ByteArray, donatuslaw1_Cut.f s 100 = some t ∧ t.size ≤ 100 := by
  unfold donatuslaw1_Cut.f
  by_cases h : (s.size : Int) > 100
  · rw [if_pos h, if_pos (by omega), if_pos (by omega)]
    exact ⟨_, rfl, by rw [ByteArray.size_extract]; omega⟩
  · rw [if_neg h]
    exact ⟨s, rfl, by omega⟩
theorem strOfNums_bytesOf (s : ByteArray) : strOfNums (bytesOf s) = s := by
  apply ByteArray.ext
  apply Array.ext'
  rw [strOfNums_data, bytesOf, List.map_map]
  conv => rhs; rw [← List.map_id s.data.toList]
  apply List.map_congr_left
  intro x _
  simp [Function.comp]
theorem getText_put (s : ByteArray) (hs : s.size ≤ 1048576) (rest : List Int) : getText (enc (zig (s.size : Int)) ++ bytesOf s ++ rest) = (s, (((enc (zig (s.size : Int))).length + s.size : Nat) : Int), 0) := by
  unfold getText
  rw [List.append_assoc, get_enc0 (s.size : Int) (by omega) (by omega)]
  simp only [if_true]
  have hl : (enc (zig (s.size : Int)) ++ (bytesOf s ++ rest)).length = (enc (zig (s.size : Int))).length + (s.size + rest.length) := by rw [List.length_append, List.length_append, bytesOf_length]
  rw [if_neg (by omega), if_neg (by rw [hl]; omega), Int.toNat_natCast, Int.toNat_natCast, List.drop_left]
  have e : (bytesOf s ++ rest).take s.size = bytesOf s := by rw [← bytesOf_length s]; exact List.take_left
  rw [e, strOfNums_bytesOf]
  simp
theorem NumBack : donatuslaw1_NumBack.Pure := by
  intro ahead rest n s u _ hl1 hb1 _ hl2 hb2 hn hs hu
  have hn := i64_bd hn
  have hu := u32_bd hu
  have hb1 := bytes_wf hb1
  have hb2 := bytes_wf hb2
  refine Ev.rounds (r := true) ?_
  unfold donatuslaw1_NumBack.f
  refine Ev.bind begun_ev ?_
  obtain ⟨t, ht, hts⟩ := Cut_is s
  simp only [if_true, show donatuslaw1_Short.f ahead 20 = some (ahead.take 20) from Short_is ahead 20 (by omega), show donatuslaw1_Short.f rest 20 = some (rest.take 20) from Short_is rest 20 (by omega), Option.bind_some, ht, List.nil_append]
  have hba : Bytes (ahead.take 20) := hb1.take 20
  have hla : (ahead.take 20).length ≤ 20 := List.length_take_le ..
  have hbr : Bytes (rest.take 20) := hb2.take 20
  have hlr : (rest.take 20).length ≤ 20 := List.length_take_le ..
  generalize ahead.take 20 = a at hba hla ⊢
  generalize rest.take 20 = r at hbr hlr ⊢
  have hz := enc_len10 (zig_lt hn.1 hn.2)
  have hz2 := enc_len10 (zig_lt (n := (t.size : Int)) (by omega) (by omega))
  have hsz : ∀ l : List Int, (strOfNums l).size = l.length := strOfNums_size
  refine Ev.congr (fun k => if_pos (by simp only [List.length_nil]; omega)) ?_
  refine Ev.bind (Put_ev a hn.1 hn.2 (by omega)) (Ev.bind (refPut_ev hn.1 hn.2) ?_)
  refine Ev.congr (fun k => by rw [if_pos (by rw [hsz, hsz]; omega), if_pos (by rw [strOfNums_append]), if_pos (by omega), if_pos (by rw [List.length_append]; omega), Int.toNat_natCast, List.drop_left, if_pos (by simp only [List.length_nil]; omega), if_pos (by omega)]) ?_
  refine Ev.bind (Get_ev _ ((show Bytes (enc (zig n)) from enc_bytes _).append hbr)) ?_
  rw [get_enc0 n hn.1 hn.2]
  refine Ev.bind (PutText_ev a t (by omega)) ?_
  have hlen : (a ++ enc (zig (t.size : Int)) ++ bytesOf t).length = a.length + (enc (zig (t.size : Int))).length + t.size := by rw [List.length_append, List.length_append, bytesOf_length]
  have hd : (a ++ enc (zig (t.size : Int)) ++ bytesOf t).drop a.length = enc (zig (t.size : Int)) ++ bytesOf t := by rw [List.append_assoc, List.drop_left]
  have hlen2 : (enc (zig (t.size : Int)) ++ bytesOf t).length = (enc (zig (t.size : Int))).length + t.size := by rw [List.length_append, bytesOf_length]
  refine Ev.congr (fun k => by rw [if_pos (by rw [hlen]; omega), hd, if_pos (by simp only [List.length_nil]; omega), if_pos (by rw [hlen2]; omega)]) ?_
  refine Ev.bind (GetText_ev _ (((show Bytes (enc (zig (t.size : Int))) from enc_bytes _).append (bytes_of t)).append hbr) (by rw [List.length_append, hlen2]; omega)) ?_
  rw [getText_put t (by omega)]
  simp only [if_true]
  have hw1 : wrap64 (((a ++ enc (zig n)).length : Int) - (a.length : Int)) = ((enc (zig n)).length : Int) := by rw [wrap64_eq (by rw [List.length_append]; omega) (by rw [List.length_append]; omega), List.length_append]; omega
  have hw2 : wrap64 (((a ++ enc (zig (t.size : Int)) ++ bytesOf t).length : Int) - (a.length : Int)) = (((enc (zig (t.size : Int))).length + t.size : Nat) : Int) := by rw [wrap64_eq (by rw [hlen]; omega) (by rw [hlen]; omega), hlen]; omega
  refine Ev.congr (fun k => if_pos (by rw [hw1])) ?_
  refine Ev.bind (refPutText_ev t (by omega)) ?_
  refine Ev.congr (fun k => by rw [if_pos (by rw [hsz, hsz, hlen2]; omega), if_pos (by rw [← strOfNums_append, List.append_assoc]), if_pos (by rw [hw2])]) ?_
  have h4 : num_Four.f u = some [(u / 16777216) % 256, (u / 65536) % 256, (u / 256) % 256, u % 256] := rfl
  refine Ev.congr (fun k => by rw [h4, Option.bind_some, beq_self_eq_true]) (Ev.now _)

end Go.Proofs.Ytjnhlbelpflobaa.Pure
