/- Part of a machine of its own for this claim: the program's code over memory without draws. -/
import Derived.Test.YtoamlagpnnmnhaaAmPConf
set_option linter.unusedVariables false
set_option linter.unusedSimpArgs false
set_option linter.unnecessarySimpa false
/- The document's way of reading records comes to the same. -/
set_option linter.unusedSimpArgs false
namespace Go.AM
open Go
/-- A cut of a row is a cut of it wherever the row is there. -/
theorem sliceA_via {P : Program} {α : Type} (cells : α → List Value) {H H0 : Heap} {A A' : Option Addr} {c c' sz : Nat} {es L' : List α} {t : TypeId} (hs : elemIs P t sz = true) (hz : sz ≠ 0) (hc : es.length ≤ c) {lo hi : Option Value} {l h : Nat}
    (hh : (if hi.isSome then bound hi es.length es.length else some es.length) = some h) (hl : bound lo h 0 = some l) (hlh : l ≤ h) (hhn : h ≤ es.length)
    (hL : L' = (es.drop l).take (h - l)) (he : sliceA P H t (.slice A es.length c) lo hi none = some (.slice A' L'.length c')) (k : Row H0 A c sz (es.map cells)) : Row H0 A' c' sz (L'.map cells) := by
  obtain ⟨A1, c1, L1, h1, h2, h3, h4, _⟩ := sliceA_typed cells hs hz k hc hh hl hlh hhn
  rw [← hL] at h1
  subst h1
  unfold elemIs at hs
  split at hs
  · rename_i e hu
    simp only [sliceA, hu] at he h3
    split at he
    · split at h3
      · rw [he] at h3
        cases h3
        exact h4
      · cases h3
    · cases he
  · cases hs
/-- Where branches meet. -/
theorem aw_join {P : Program} {E : TypeId → Bool} {α : Type} (S : α → Slots) (HS : α → Heap) (Inv : α → Prop) {n : Nat} {a b : Code} {l : Slots} {H : Heap} {Q : Ex → Regs → Heap → Prop} (hJ : ∀ x, Inv x → aw P E b (RL n (S x)) (HS x) Q)
    (ha : (∀ x, Inv x → aw P E b (RL n (S x)) (HS x) Q) → aw P E a (RL n l) H (Ex.then (fun r H => aw P E b r H Q) Q)) : aw P E (.seq a b) (RL n l) H Q := aw_seq (ha hJ)
end Go.AM
namespace Go.AM.Spec
theorem Bytes.set {l : List Int} (h : Bytes l) {i : Nat} {x : Int} (hx : 0 ≤ x ∧ x < 256) : Bytes (l.set i x) := fun y hy => by
  rcases List.mem_or_eq_of_mem_set hy with h1 | h1
  · exact h y h1
  · rw [h1]; exact hx
open Go Go.RowKit
theorem four_is2 {s : Int} (h : 0 ≤ s ∧ s ≤ 4294967295) : [s / 16777216, IntKind.u8.wrap (s / 65536), IntKind.u8.wrap (s / 256), IntKind.u8.wrap s] = four s.toNat := by
  rw [← four_is, show ((s.toNat : Nat) : Int) = s from Int.toNat_of_nonneg h.1, IntKind.wrap_u8, IntKind.wrap_u8, IntKind.wrap_u8, show s / 16777216 % 256 = s / 16777216 by omega]
theorem openR_end {l L1 body L4 : List Int} {c n k : Int} (hb : Bytes l) (h0 : l[0]? = some c) (hL1 : L1 = (l.drop 1).take (l.length - 1)) (hR : numGet 0 0 L1 = (n, k, 0)) (hc : c ≠ 0) (hn : 0 ≤ n ∧ n ≤ 4000) (hk : 1 ≤ k ∧ k ≤ 10) (hlen : ¬ (l.length : Int) < 1 + k + 4 + n)
    (hL2 : body = (l.drop (1 + k + 4).toNat).take ((1 + k + 4 + n).toNat - (1 + k + 4).toNat)) (hL4 : L4 = (l.drop 0).take ((1 + k + 4 + n).toNat - 0)) :
    ((strOfNums (sealF c body)).toList = (strOfNums L4).toList → openF l = (c, body, 1 + k + 4 + n, 0)) ∧ ((strOfNums (sealF c body)).toList ≠ (strOfNums L4).toList → openF l = (0, [], 0, 3)) := by
  have hcb : 0 ≤ c ∧ c < 256 := hb c (List.mem_of_getElem? h0)
  have e2 : (1 + k + 4).toNat = 1 + k.toNat + 4 := by omega
  have e3 : (1 + k + 4 + n).toNat = 1 + k.toNat + 4 + n.toNat := by omega
  rw [e2, e3, show 1 + k.toNat + 4 + n.toNat - (1 + k.toNat + 4) = n.toNat by omega] at hL2
  rw [Nat.sub_zero, List.drop_zero, e3] at hL4
  have hlb : body.length = n.toNat := by rw [hL2, List.length_take, List.length_drop]; omega
  have hbb : Bytes body := by rw [hL2]; exact (hb.drop _).take _
  have hseal : sealF c body = frameF c body := by unfold sealF; rw [if_neg (by omega)]
  have b4 : Bytes L4 := by rw [hL4]; exact hb.take _
  have h1 := drop1 hL1
  have hcan := numGet_canon0 (l := L1) (by rw [← h1]; exact hb.drop _) (by rw [hR])
  rw [hR] at hcan
  simp only at hcan
  have hhead : headF c body.length = l.take (1 + k.toNat) := by
    unfold headF
    cases l with
    | nil => simp at h0
    | cons a r =>
      simp at h0 h1
      subst h0 h1
      rw [Nat.add_comm, List.take_succ_cons, hcan, hlb, show ((n.toNat : Nat) : Int) = n by omega]
  have p3 : L4 = l.take (1 + k.toNat) ++ ((l.drop (1 + k.toNat)).take 4 ++ body) := by
    rw [hL4, hL2, Nat.add_assoc (1 + k.toNat), List.take_add (i := 1 + k.toNat) (j := 4 + n.toNat), List.take_add (i := 4) (j := n.toNat), List.drop_drop]
  have hiff : frameF c body = L4 ↔ four (crcMore 0 (l.take (1 + k.toNat) ++ body)) = (l.drop (1 + k.toNat)).take 4 := by
    unfold frameF
    rw [hhead, p3]
    constructor
    · intro h
      have h7 := List.append_cancel_left h
      exact (List.append_inj h7 (by rw [four_length, List.length_take, List.length_drop]; omega)).1
    · intro h; rw [h]
  have key := openF_ne h0 hL1 hR
  rw [if_neg hc, if_neg (by omega), if_neg (by omega), if_neg hlen, ← hL2] at key
  rw [hseal]
  refine ⟨fun h => ?_, fun h => ?_⟩
  · rw [key, if_pos (hiff.1 ((str_inj (frameF_bytes hcb hbb) b4).1 h))]
  · rw [key, if_neg (fun q => h (by rw [hiff.2 q]))]
/-- So many numbers off the bytes' front. -/
def numsF : Nat → List Int → List Int → List Int × List Int × Bool
  | 0, l, acc => (acc, l, true)
  | n + 1, l, acc => if (numGet 0 0 l).2.2 = 0 then numsF n (l.drop (numGet 0 0 l).2.1.toNat) (acc ++ [(numGet 0 0 l).1]) else ([], [], false)
theorem rdN_ok {l : List Int} (h : (numGet 0 0 l).2.2 = 0) : rdN l false = ((numGet 0 0 l).1, l.drop (numGet 0 0 l).2.1.toNat, false) := by
  unfold rdN
  rw [if_pos h]
  rfl
theorem rdN_bad {l : List Int} {bad : Bool} (h : bad = true ∨ (numGet 0 0 l).2.2 ≠ 0) : (rdN l bad).2.2 = true := by
  unfold rdN
  rcases h with rfl | h
  · split <;> rfl
  · rw [if_neg h]
theorem rdT_bad {l : List Int} {bad : Bool} (h : bad = true ∨ (getText l).2.2 ≠ 0) : (rdT l bad).2.2 = true := by
  unfold rdT
  rcases h with rfl | h
  · split <;> rfl
  · rw [if_neg h]
theorem nums_one {n : Nat} {l acc L rest : List Int} {ok : Bool} (h : numsF (n + 1) l acc = (L, rest, ok)) : (ok = true → rdN l false = ((numGet 0 0 l).1, l.drop (numGet 0 0 l).2.1.toNat, false) ∧ numsF n (l.drop (numGet 0 0 l).2.1.toNat) (acc ++ [(numGet 0 0 l).1]) = (L, rest, ok)) ∧
    (ok = false → (rdN l false).2.2 = true ∨ (rdN l false = ((numGet 0 0 l).1, l.drop (numGet 0 0 l).2.1.toNat, false) ∧ numsF n (l.drop (numGet 0 0 l).2.1.toNat) (acc ++ [(numGet 0 0 l).1]) = (L, rest, ok))) := by
  unfold numsF at h
  by_cases h0 : (numGet 0 0 l).2.2 = 0
  · rw [if_pos h0] at h
    exact ⟨fun _ => ⟨rdN_ok h0, h⟩, fun _ => .inr ⟨rdN_ok h0, h⟩⟩
  · rw [if_neg h0] at h
    simp only [Prod.mk.injEq] at h
    obtain ⟨_, _, rfl⟩ := h
    exact ⟨fun h => Bool.noConfusion h, fun _ => .inl (rdN_bad (.inr h0))⟩
theorem rdN_stays {l : List Int} : (rdN l true).2.2 = true := rdN_bad (.inl rfl)
theorem nums2 {l L rest : List Int} {ok : Bool} (h : numsF 2 l [] = (L, rest, ok)) : (ok = true → L = [(rdN l false).1, (rdN (rdN l false).2.1 (rdN l false).2.2).1] ∧ rest = (rdN (rdN l false).2.1 (rdN l false).2.2).2.1 ∧ (rdN (rdN l false).2.1 (rdN l false).2.2).2.2 = false ∧ (rdN l false).2.2 = false) ∧ (ok = false → (rdN (rdN l false).2.1 (rdN l false).2.2).2.2 = true) := by
  obtain ⟨a1, a2⟩ := nums_one h
  refine ⟨fun hk => ?_, fun hk => ?_⟩
  · obtain ⟨r1, h1⟩ := a1 hk
    obtain ⟨r2, h2⟩ := (nums_one h1).1 hk
    rw [r1]
    simp only
    rw [r2]
    simp only [numsF, Prod.mk.injEq] at h2
    exact ⟨h2.1.symm, h2.2.1.symm, by trivial, by trivial⟩
  · rcases a2 hk with r1 | ⟨r1, h1⟩
    · rw [r1]; exact rdN_stays
    · rw [r1]
      simp only
      rcases (nums_one h1).2 hk with r2 | ⟨r2, h2⟩
      · exact r2
      · simp only [numsF, Prod.mk.injEq] at h2
        rw [← h2.2.2] at hk; cases hk
theorem nums3 {l L rest : List Int} {ok : Bool} (h : numsF 3 l [] = (L, rest, ok)) :
    (ok = true → ∃ x1 l1 x2 l2 x3, rdN l false = (x1, l1, false) ∧ rdN l1 false = (x2, l2, false) ∧ rdN l2 false = (x3, rest, false) ∧ L = [x1, x2, x3]) ∧
    (ok = false → (rdN (rdN (rdN l false).2.1 (rdN l false).2.2).2.1 (rdN (rdN l false).2.1 (rdN l false).2.2).2.2).2.2 = true) := by
  obtain ⟨a1, a2⟩ := nums_one h
  refine ⟨fun hk => ?_, fun hk => ?_⟩
  · obtain ⟨r1, h1⟩ := a1 hk
    obtain ⟨r2, h2⟩ := (nums_one h1).1 hk
    obtain ⟨r3, h3⟩ := (nums_one h2).1 hk
    simp only [numsF, Prod.mk.injEq] at h3
    obtain ⟨rfl, rfl, _⟩ := h3
    exact ⟨_, _, _, _, _, r1, r2, r3, by simp⟩
  · rcases a2 hk with r1 | ⟨r1, h1⟩
    · rw [r1, rdN_stays]; exact rdN_stays
    · rw [r1]
      simp only
      rcases (nums_one h1).2 hk with r2 | ⟨r2, h2⟩
      · rw [r2]; exact rdN_stays
      · rw [r2]
        simp only
        rcases (nums_one h2).2 hk with r3 | ⟨r3, h3⟩
        · exact r3
        · simp only [numsF, Prod.mk.injEq] at h3
          rw [← h3.2.2] at hk; cases hk
theorem decH {b body L rest : List Int} {n : Int} {ok : Bool} (hb : Bytes b) (hO : openF b = (1, body, n, 0)) (hN : numsF 2 body [] = (L, rest, ok)) :
    (ok = true → rest = [] → ∃ t v, L = [t, v] ∧ (mayF true t v 0 0 0 (⟨#[]⟩ : ByteArray) = true → decF b = (true, t, v, 0, 0, 0, (⟨#[]⟩ : ByteArray), n, 0) ∧ encodeF true t v 0 0 0 (⟨#[]⟩ : ByteArray) = b.take n.toNat) ∧ (mayF true t v 0 0 0 (⟨#[]⟩ : ByteArray) = false → decF b = decBad)) ∧
    (ok = false ∨ rest ≠ [] → decF b = decBad) := by
  have hof := openF_frame hb (by rw [hO])
  have hbody : Bytes body := by have := (open_all hb).2.2.2; rw [hO] at this; exact this
  rw [hO] at hof
  simp only at hof
  obtain ⟨n1, n2⟩ := nums2 hN
  have hd : decF b = (if (!(rdN (rdN body false).2.1 (rdN body false).2.2).2.2 && (rdN (rdN body false).2.1 (rdN body false).2.2).2.1.isEmpty) = true then (if mayF true (rdN body false).1 (rdN (rdN body false).2.1 (rdN body false).2.2).1 0 0 0 (⟨#[]⟩ : ByteArray) = true then (true, (rdN body false).1, (rdN (rdN body false).2.1 (rdN body false).2.2).1, 0, 0, 0, (⟨#[]⟩ : ByteArray), n, 0) else decBad) else decBad) := by
    unfold decF
    simp only [hO, if_true]
  refine ⟨fun hk hr => ?_, fun hk => ?_⟩
  · obtain ⟨q1, q2, q3, q4⟩ := n1 hk
    obtain ⟨_, g1, _⟩ := rdN_good hbody q4
    obtain ⟨_, g2, _⟩ := rdN_good (rdN_bytes hbody false) q3
    rw [q4] at g2 q2 q3 q1 hd
    rw [← q2, hr] at g2
    rw [q3, ← q2, hr] at hd
    simp only [Bool.not_false, List.isEmpty_nil, Bool.and_self, if_true] at hd
    refine ⟨_, _, q1, fun hm => ⟨by rw [hd, if_pos hm], ?_⟩, fun hm => by rw [hd, if_neg (by rw [hm]; decide)]⟩
    have hbf : body = bodyF true (rdN body false).1 (rdN (rdN body false).2.1 false).1 0 0 0 (⟨#[]⟩ : ByteArray) := by
      simp only [bodyF, if_true]
      rw [List.append_nil] at g2
      rw [← g2]
      exact g1
    unfold encodeF
    rw [if_pos hm, ← hbf, hof.2.2.2.1, Int.toNat_natCast]
    exact hof.2.2.2.2.2.symm
  · rw [hd]
    rcases hk with hk | hr
    · rw [n2 hk]; rfl
    · cases ok with
      | false => rw [n2 rfl]; rfl
      | true =>
        obtain ⟨q1, q2, q3, q4⟩ := n1 rfl
        rw [q3, ← q2, if_neg (by cases rest <;> simp_all)]
theorem decE {b body L rest : List Int} {n : Int} {ok : Bool} (hb : Bytes b) (hO : openF b = (2, body, n, 0)) (hN : numsF 3 body [] = (L, rest, ok)) :
    (ok = true → ∃ i u q, L = [i, u, q] ∧ (¬ (1 ≤ q ∧ q ≤ 3) → decF b = decBad) ∧ ∀ s k e, getText rest = (s, k, e) → (e ≠ 0 → decF b = decBad) ∧ (e = 0 → (mayF false 0 0 i u q s = false → decF b = decBad) ∧ (mayF false 0 0 i u q s = true → (encodeF false 0 0 i u q s = b.take n.toNat → decF b = (false, 0, 0, i, u, q, s, n, 0)) ∧ (encodeF false 0 0 i u q s ≠ b.take n.toNat → decF b = decBad)))) ∧
    (ok = false → decF b = decBad) := by
  have hof := openF_frame hb (by rw [hO])
  have hbody : Bytes body := by have := (open_all hb).2.2.2; rw [hO] at this; exact this
  rw [hO] at hof
  simp only at hof
  obtain ⟨n1, n2⟩ := nums3 hN
  refine ⟨fun hk => ?_, fun hk => ?_⟩
  · obtain ⟨x1, l1, x2, l2, x3, r1, r2, r3, rfl⟩ := n1 hk
    obtain ⟨_, g1, _⟩ := rdN_good (l := body) (bad := false) hbody (by rw [r1])
    have b1 := rdN_bytes hbody false
    rw [r1] at g1 b1
    obtain ⟨_, g2, _⟩ := rdN_good (l := l1) (bad := false) b1 (by rw [r2])
    have b2 := rdN_bytes b1 false
    rw [r2] at g2 b2
    obtain ⟨_, g3, _⟩ := rdN_good (l := l2) (bad := false) b2 (by rw [r3])
    have b3 := rdN_bytes b2 false
    rw [r3] at g3 b3
    simp only at g1 g2 g3 b1 b2 b3
    have hd : decF b = (if (!(rdT rest false).2.2 && (rdT rest false).2.1.isEmpty) = true then (if mayF false 0 0 x1 x2 x3 (rdT rest false).1 = true then (false, 0, 0, x1, x2, x3, (rdT rest false).1, n, 0) else decBad) else decBad) := by
      unfold decF
      simp only [hO, if_true, r1, r2, r3, show ¬ (2 : Int) = 1 by decide, if_false]
    refine ⟨x1, x2, x3, rfl, fun hq => ?_, fun s k e hT => ⟨fun he => ?_, fun he => ?_⟩⟩
    · rw [hd]
      have hm : ∀ d, mayF false 0 0 x1 x2 x3 d = false := fun d => by rw [mayE_eq]; exact decide_eq_false (by omega)
      rw [hm]
      split <;> rfl
    · rw [hd, rdT_bad (.inr (by rw [hT]; exact he))]; rfl
    · subst he
      have ht : rdT rest false = (s, rest.drop k.toNat, false) := by unfold rdT; rw [hT]; rfl
      rw [ht] at hd
      simp only [Bool.not_false, Bool.true_and] at hd
      obtain ⟨_, g4, _⟩ := rdT_good (l := rest) (bad := false) b3 (by rw [ht])
      rw [ht] at g4
      simp only at g4
      refine ⟨fun hm => by rw [hd, hm]; split <;> rfl, fun hm => ?_⟩
      have hbf : body = bodyF false 0 0 x1 x2 x3 s ++ rest.drop k.toNat := by
        simp only [bodyF, Bool.false_eq_true, if_false]
        rw [g1, g2, g3]
        conv => lhs; rw [g4]
        simp [List.append_assoc]
      have htake : b.take n.toNat = frameF 2 body := by rw [hof.2.2.2.1, Int.toNat_natCast]; exact hof.2.2.2.2.2
      have henc : encodeF false 0 0 x1 x2 x3 s = frameF 2 (bodyF false 0 0 x1 x2 x3 s) := by unfold encodeF; rw [if_pos hm]; rfl
      by_cases ht0 : rest.drop k.toNat = []
      · rw [ht0, List.append_nil] at hbf
        rw [ht0, hm] at hd
        simp only [List.isEmpty_nil, if_true] at hd
        exact ⟨fun _ => hd, fun h => absurd (by rw [henc, htake, hbf]) h⟩
      · have hd' : decF b = decBad := by rw [hd, if_neg (fun h => ht0 (List.isEmpty_iff.1 h))]
        refine ⟨fun h => ?_, fun _ => hd'⟩
        exfalso
        rw [henc, htake] at h
        have e2 := congrArg List.length h
        have hl := congrArg List.length hbf
        have hpos := List.length_pos_iff.2 ht0
        rw [List.length_append] at hl
        have hmono := enc_mono (a := zig ((bodyF false 0 0 x1 x2 x3 s).length : Int)) (b := zig (body.length : Int)) (by rw [zig_len, zig_len]; omega)
        rw [frameF_length, frameF_length] at e2
        omega
  · have := n2 hk
    unfold decF
    simp only [hO, if_true, show ¬ (2 : Int) = 1 by decide, if_false]
    generalize rdN (rdN (rdN body false).2.1 (rdN body false).2.2).2.1 (rdN (rdN body false).2.1 (rdN body false).2.2).2.2 = s3 at this
    rw [this, rdT_bad (.inl rfl)]
    rfl
end Go.AM.Spec
namespace Go.AM.Spec
open Go Go.RowKit
theorem mayH2_eq {t v i u q : Int} {d : ByteArray} : mayF true t v i u q d = true ↔ (0 ≤ t ∧ t ≤ 1099511627776) ∧ (0 ≤ v ∧ v ≤ 7) ∧ i = 0 ∧ u = 0 ∧ q = 0 ∧ d = (⟨#[]⟩ : ByteArray) := by
  constructor
  · intro h
    obtain ⟨h1, h2, h3, h4, h5, h6⟩ := may_hard h
    exact ⟨h1, h2, h3, h4, h5, toList_nil h6⟩
  · rintro ⟨h1, h2, rfl, rfl, rfl, rfl⟩
    rw [mayH_eq]
    exact decide_eq_true ⟨h1, h2⟩
theorem mayE2_eq {t v i u q : Int} {d : ByteArray} : mayF false t v i u q d = true ↔ (t = 0 ∧ v = 0) ∧ (1 ≤ i ∧ i ≤ 1099511627776) ∧ (1 ≤ u ∧ u ≤ 1099511627776) ∧ (1 ≤ q ∧ q ≤ 3) ∧ d.size ≤ 2500 := by
  constructor
  · intro h
    obtain ⟨h1, h2, h3⟩ := may_entry h
    exact ⟨⟨h1, h2⟩, h3⟩
  · rintro ⟨⟨rfl, rfl⟩, h⟩
    rw [mayE_eq]
    exact decide_eq_true h
theorem ba_iff {a b : ByteArray} : a = b ↔ a.toList = b.toList := ⟨fun h => by rw [h], toList_inj⟩
theorem ne_nil_of_len {l : List Int} (h : ¬ (l.length : Int) = 0) : l ≠ [] := fun q => h (by rw [q]; rfl)
section dec
variable {b body L rest L4 : List Int} {k n e t v i u q gk ge : Int} {ok : Bool} {s : ByteArray}
theorem dec_err (hO : openF b = (k, body, n, e)) (he : e ≠ 0) : decF b = (false, 0, 0, 0, 0, 0, (⟨#[]⟩ : ByteArray), 0, e) := by
  unfold decF
  rw [hO, if_neg he]
theorem dec_kind (hO : openF b = (k, body, n, e)) (he : e = 0) (h1 : k ≠ 1) (h2 : k ≠ 2) : decF b = decBad := by
  unfold decF
  rw [hO, if_pos he, if_neg h1, if_neg h2]
theorem decH_no (hb : Bytes b) (hO : openF b = (k, body, n, e)) (he : e = 0) (hk : k = 1) (hN : numsF 2 body [] = (L, rest, ok)) (h : ok = false ∨ rest ≠ []) : decF b = decBad := by
  subst he; subst hk
  exact (decH hb hO hN).2 h
theorem decH_x (hb : Bytes b) (hO : openF b = (k, body, n, e)) (he : e = 0) (hk : k = 1) (hN : numsF 2 body [] = (L, rest, ok)) (h1 : ok = true) (h2 : rest = []) (ht : L[0]? = some t) (hv : L[1]? = some v) :
    (mayF true t v 0 0 0 (⟨#[]⟩ : ByteArray) = true → decF b = (true, t, v, 0, 0, 0, (⟨#[]⟩ : ByteArray), n, 0) ∧ encodeF true t v 0 0 0 (⟨#[]⟩ : ByteArray) = b.take n.toNat) ∧ (mayF true t v 0 0 0 (⟨#[]⟩ : ByteArray) = false → decF b = decBad) := by
  subst he; subst hk
  obtain ⟨t', v', rfl, r⟩ := (decH hb hO hN).1 h1 h2
  cases ht; cases hv
  exact r
theorem decH_v (hb : Bytes b) (hO : openF b = (k, body, n, e)) (he : e = 0) (hk : k = 1) (hN : numsF 2 body [] = (L, rest, ok)) (h1 : ok = true) (h2 : rest = []) (hv : L[1]? = some v) (h : ¬ (0 ≤ v ∧ v ≤ 7)) : decF b = decBad := by
  subst he; subst hk
  obtain ⟨t', v', rfl, r⟩ := (decH hb hO hN).1 h1 h2
  cases hv
  exact r.2 (by rw [mayH_eq]; exact decide_eq_false (by omega))
theorem decH_ne (hb : Bytes b) (hO : openF b = (k, body, n, e)) (he : e = 0) (hk : k = 1) (hN : numsF 2 body [] = (L, rest, ok)) (h1 : ok = true) (h2 : rest = []) (ht : L[0]? = some t) (hv : L[1]? = some v) (hm : mayF true t v 0 0 0 (⟨#[]⟩ : ByteArray) = true)
    (hL4 : L4 = (b.drop 0).take (n.toNat - 0)) (hne : (strOfNums (encodeF true t v 0 0 0 (⟨#[]⟩ : ByteArray))).toList ≠ (strOfNums L4).toList) : False :=
  hne (by rw [((decH_x hb hO he hk hN h1 h2 ht hv).1 hm).2, hL4]; rfl)
theorem decE_no (hb : Bytes b) (hO : openF b = (k, body, n, e)) (he : e = 0) (hk : k = 2) (hN : numsF 3 body [] = (L, rest, ok)) (h : ok = false) : decF b = decBad := by
  subst he; subst hk
  exact (decE hb hO hN).2 h
theorem decE_q (hb : Bytes b) (hO : openF b = (k, body, n, e)) (he : e = 0) (hk : k = 2) (hN : numsF 3 body [] = (L, rest, ok)) (h : ok = true) (hq : L[2]? = some q) (hr : ¬ (1 ≤ q ∧ q ≤ 3)) : decF b = decBad := by
  subst he; subst hk
  obtain ⟨i, u, q', rfl, r, _⟩ := (decE hb hO hN).1 h
  cases hq
  exact r hr
theorem decE_x (hb : Bytes b) (hO : openF b = (k, body, n, e)) (he : e = 0) (hk : k = 2) (hN : numsF 3 body [] = (L, rest, ok)) (h : ok = true) (hi : L[0]? = some i) (hu : L[1]? = some u) (hq : L[2]? = some q) (hT : getText rest = (s, gk, ge)) :
    (ge ≠ 0 → decF b = decBad) ∧ (ge = 0 → (mayF false 0 0 i u q s = false → decF b = decBad) ∧ (mayF false 0 0 i u q s = true → (encodeF false 0 0 i u q s = b.take n.toNat → decF b = (false, 0, 0, i, u, q, s, n, 0)) ∧ (encodeF false 0 0 i u q s ≠ b.take n.toNat → decF b = decBad))) := by
  subst he; subst hk
  obtain ⟨i', u', q', rfl, _, r⟩ := (decE hb hO hN).1 h
  cases hi; cases hu; cases hq
  exact r _ _ _ hT
theorem decE_t (hb : Bytes b) (hO : openF b = (k, body, n, e)) (he : e = 0) (hk : k = 2) (hN : numsF 3 body [] = (L, rest, ok)) (h : ok = true) (hT : getText rest = (s, gk, ge)) (hge : ge ≠ 0) : decF b = decBad := by
  subst he; subst hk
  obtain ⟨i', u', q', rfl, _, r⟩ := (decE hb hO hN).1 h
  exact (r _ _ _ hT).1 hge
theorem decE_e (hb : Bytes b) (hO : openF b = (k, body, n, e)) (he : e = 0) (hk : k = 2) (hN : numsF 3 body [] = (L, rest, ok)) (h : ok = true) (hi : L[0]? = some i) (hu : L[1]? = some u) (hq : L[2]? = some q) (hT : getText rest = (s, gk, ge)) (hge : ge = 0) (hm : mayF false 0 0 i u q s = true) (hL4 : L4 = (b.drop 0).take (n.toNat - 0)) :
    ((strOfNums (encodeF false 0 0 i u q s)).toList = (strOfNums L4).toList → decF b = (false, 0, 0, i, u, q, s, n, 0)) ∧ ((strOfNums (encodeF false 0 0 i u q s)).toList ≠ (strOfNums L4).toList → decF b = decBad) := by
  have r := ((decE_x hb hO he hk hN h hi hu hq hT).2 hge).2 hm
  have h4 : L4 = b.take n.toNat := by rw [hL4]; rfl
  rw [ne_eq, str_inj (encodeF_bytes _ _ _ _ _ _ _) (by rw [h4]; exact hb.take _), h4]
  exact r
end dec
end Go.AM.Spec
