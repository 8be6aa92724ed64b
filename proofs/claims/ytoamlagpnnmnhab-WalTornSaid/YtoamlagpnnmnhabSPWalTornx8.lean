-- Written for this claim by a program of this seat (a turned copy of the printer)
import Derived.Test.YtoamlagpnnmnhabSPWalTornx0
import Derived.Test.YtoamlagpnnmnhabSPWalTornx3
import Derived.Test.YtoamlagpnnmnhabSPWalTornx5
import Derived.Test.YtoamlagpnnmnhabSPWalTornx6
namespace Go.Proofs.Ytoamlagpnnmnhab.PWalTorn
open Go.RowKit Go.Proofs.YtoamlagpnnmnhabW.PrintWords Go.Proofs.YtoamlagpnnmnhabW.PrintLast Go.Proofs.YtoamlagpnnmnhabW.PrintMore
attribute [local go_sem] max2_int min2_int max_two min_two max_three min_three max_four min_four   -- for this text's walks alone
set_option linter.unusedVariables false
set_option linter.unusedSimpArgs false

/-! ### wal_GetSnap: function 25, by hand -/
theorem one_int (w : World) (x : Int) : Kd.C (Kd.int .i64) (w.alloc (.cells #[.int .i64 x] 2)) (some ⟨w.heap.size, 0, none⟩) ([x] : List Int).length [x] := by
  refine Kd.C_of_reads (enc := Value.int .i64) (h1 := fun _ => rfl) (d := (0 : Int)) ⟨rfl, by simp, fun _ => ⟨_, rfl, fun j hj => ?_⟩⟩
  have hj0 : j = 0 := by simpa using hj
  subst hj0
  simp [Addr.add]
def snapR (ok : Bool) (x y : Int) (c d : ByteArray) (n : Int) : Value :=
  if ok then .tuple #[.agg #[.int .i64 x, .int .i64 y, .string c, .string d], .int .i64 n, .int .i64 0] else .tuple #[.agg #[.int .i64 0, .int .i64 0, .string ⟨#[]⟩, .string ⟨#[]⟩], .int .i64 0, .int .i64 3]
theorem snap_err (k : Nat) (A0 : Option Addr) (c0 : Nat) (l0 : List Int) (kind n err : Int) (body : List Int) (w : World) (hr0 : Kd.C (Kd.int .u8) w A0 l0.length l0) (hc0 : l0.length ≤ c0) (h : frame_Open.f k l0 = some (kind, body, n, err)) (he : err ≠ 0) :
    Calls Try.prog 25 #[.slice A0 l0.length c0] w fun e w' => e = .returned (.tuple #[.agg #[.int .i64 0, .int .i64 0, .string ⟨#[]⟩, .string ⟨#[]⟩], .int .i64 0, .int .i64 err]) ∧ Below w.heap.size w w' := by
  have hne : (err == 0) = false := by simpa using he
  have hne2 : (err != 0) = true := by simpa using he
  go_enter Try.func25, Try.ntmps25
  go_wp2_with (go_at_call 38; refine (frame_Open.calls k A0 c0 l0 kind body n err _ (Kd.C_below hr0 (below_alloc (Below.refl _ _) _)) hc0 h).mono ?_; rintro e w5 ⟨v1, rfl, ho, hb⟩; have hg2 := blk_below (blk_new w _) hb; have hc2 := blk_cell hg2; have hf2 := blk_frozen hg2)
  refine bodyPost_ret (v := .tuple #[.agg #[.int .i64 0, .int .i64 0, .string ⟨#[]⟩, .string ⟨#[]⟩], .int .i64 0, .int .i64 err]) (by simp [results, Try.results25, go_sem, hc2]) rfl ⟨rfl, ?_⟩
  have hB := below_step (below_alloc (Below.refl w.heap.size w) _) hb
  with_reducible exact below_setb (below_setb (below_setb (below_setb hB (Nat.le_refl _)) (Nat.le_refl _)) (Nat.le_refl _)) (Nat.le_refl _)
theorem snap_kind (k : Nat) (A0 : Option Addr) (c0 : Nat) (l0 : List Int) (kind n : Int) (body : List Int) (w : World) (hr0 : Kd.C (Kd.int .u8) w A0 l0.length l0) (hc0 : l0.length ≤ c0) (h : frame_Open.f k l0 = some (kind, body, n, 0))
   {x1 x2 x4 : Int} {x3 : ByteArray} {l1 l2 l3 l4 : List Int} {b1 b2 b3 b4 : Bool} (h1 : rdNum k body false = some (x1, l1, b1)) (h2 : rdNum k l1 b1 = some (x2, l2, b2)) (h3 : rdText k l2 b2 = some (x3, l3, b3)) (h4 : rdNum k l3 b3 = some (x4, l4, b4)) (hk3 : kind ≠ 3) :
    Calls Try.prog 25 #[.slice A0 l0.length c0] w (DecPost w (snapR false 0 0 ⟨#[]⟩ ⟨#[]⟩ 0)) := by
  have e1 : (kind == 3) = false := by simpa using hk3
  have e2 : (kind != 3) = true := by simpa using hk3
  clear hk3
  go_enter Try.func25, Try.ntmps25
  go_wp2_with (go_at_call 38; refine (frame_Open.calls k A0 c0 l0 kind body n 0 _ (Kd.C_below hr0 (below_alloc (Below.refl _ _) _)) hc0 h).mono ?_; rintro e w5 ⟨v1, rfl, ho, hb⟩; obtain ⟨A1, c1, rfl, hcc, hrr⟩ := Kd.R_reads ho; have hg2 := blk_below (blk_new w _) hb)
  have hlt := blk_lt hg2
  have hs0 : IsRd 78 (fun k => k < w5.heap.size) (w5.alloc (.cells #[.slice A1 body.length c1, .bool false] 78)) w5.heap.size body false :=
    ⟨A1, c1, blk_new w5 _, hcc, Kd.F_alloc (Kd.C_F (Kd.heap_int .u8) hrr) _⟩
  have hg27 := blk_below hg2 (below_alloc (Below.refl w5.heap.size w5) (.cells #[.slice A1 body.length c1, .bool false] 78))
  have hB5 := below_step (below_alloc (Below.refl w.heap.size w) _) hb
  have hB : Below w.heap.size w (w5.alloc (.cells #[.slice A1 body.length c1, .bool false] 78)) := below_alloc hB5 (.cells #[.slice A1 body.length c1, .bool false] 78)
  have hl0 : w5.heap.size + 1 ≤ (w5.alloc (.cells #[.slice A1 body.length c1, .bool false] 78)).heap.size := by simp
  refine (num_call hs0 (Nat.lt_irrefl _) h1).mono ?_
  clear hs0
  rintro e wa1 ⟨rfl, hs1, hk1, hB1⟩
  replace hg27 := kept_blk hk1 hg27 (by omega)
  have hl1 : w5.heap.size < wa1.heap.size := Nat.lt_of_lt_of_le (by omega) hk1.1
  replace hB := hB.trans (hB1 w.heap.size (by omega) hB.size)
  clear hk1 hB1 hl0
  go_wp2_with fail
  have hs0 : IsRd 78 (fun k => k < w5.heap.size) (wa1.alloc (.cells #[.int .i64 x1, .int .i64 0, .string ⟨#[]⟩, .string ⟨#[]⟩] 56)) w5.heap.size l1 b1 := by
    obtain ⟨A, c, q1, q2, q3⟩ := hs1
    exact ⟨A, c, blk_below q1 (below_alloc (Below.refl _ _) _), q2, Kd.F_alloc q3 _⟩
  clear hs1
  have hg10 := blk_new wa1 (.cells #[.int .i64 x1, .int .i64 0, .string ⟨#[]⟩, .string ⟨#[]⟩] 56)
  replace hg27 := blk_below hg27 (below_alloc (Below.refl wa1.heap.size wa1) (.cells #[.int .i64 x1, .int .i64 0, .string ⟨#[]⟩, .string ⟨#[]⟩] 56))
  replace hB := below_alloc hB (.cells #[.int .i64 x1, .int .i64 0, .string ⟨#[]⟩, .string ⟨#[]⟩] 56)
  obtain ⟨g10, hg10e⟩ : ∃ g, g = wa1.heap.size := ⟨_, rfl⟩
  rw [← hg10e] at hg10
  have hlg : w5.heap.size < g10 := by omega
  generalize wa1.alloc (.cells #[.int .i64 x1, .int .i64 0, .string ⟨#[]⟩, .string ⟨#[]⟩] 56) = wb1 at hg10 hg27 hs0 hB ⊢
  rw [← hg10e]
  clear hg10e hl1
  refine (num_call hs0 (Nat.lt_irrefl _) h2).mono ?_
  clear hs0
  rintro e wa2 ⟨rfl, hs1, hk1, hB1⟩
  replace hg10 := kept_blk hk1 hg10 (by omega)
  replace hg27 := kept_blk hk1 hg27 (by omega)
  replace hB := hB.trans (hB1 w.heap.size (by omega) hB.size)
  clear hk1 hB1
  have hc10 := blk_cell hg10
  have hf10 := blk_frozen hg10
  go_wp2_with fail
  clear hc10 hf10
  replace hg10 := blk_set hg10 1 (.int .i64 x2)
  simp only [List.setIfInBounds_toArray, List.set_cons_zero, List.set_cons_succ] at hg10
  replace hg27 := blk_far hg27 (p := ⟨g10, 1, none⟩) (by show w.heap.size ≠ g10; omega) (.int .i64 x2)
  have hs0 := hs1.far (i := 1) (u := .int .i64 x2) (show w5.heap.size ≠ g10 by omega) (by omega)
  clear hs1
  replace hB := below_setb (i := 1) (v := .int .i64 x2) hB (show w.heap.size ≤ g10 by omega)
  generalize wa2.setCell ⟨g10, 1, none⟩ (.int .i64 x2) = wb2 at hg10 hg27 hs0 hB ⊢
  clear wa2
  refine (text_call hs0 (Nat.lt_irrefl _) h3).mono ?_
  clear hs0
  rintro e wa3 ⟨rfl, hs1, hk1, hB1⟩
  replace hg10 := kept_blk hk1 hg10 (by omega)
  replace hg27 := kept_blk hk1 hg27 (by omega)
  replace hB := hB.trans (hB1 w.heap.size (by omega) hB.size)
  clear hk1 hB1
  have hc10 := blk_cell hg10
  have hf10 := blk_frozen hg10
  go_wp2_with fail
  clear hc10 hf10
  replace hg10 := blk_set hg10 2 (.string x3)
  simp only [List.setIfInBounds_toArray, List.set_cons_zero, List.set_cons_succ] at hg10
  replace hg27 := blk_far hg27 (p := ⟨g10, 2, none⟩) (by show w.heap.size ≠ g10; omega) (.string x3)
  have hs0 := hs1.far (i := 2) (u := .string x3) (show w5.heap.size ≠ g10 by omega) (by omega)
  clear hs1
  replace hB := below_setb (i := 2) (v := .string x3) hB (show w.heap.size ≤ g10 by omega)
  generalize wa3.setCell ⟨g10, 2, none⟩ (.string x3) = wb3 at hg10 hg27 hs0 hB ⊢
  clear wa3
  refine (num_call hs0 (Nat.lt_irrefl _) h4).mono ?_
  clear hs0
  rintro e wa4 ⟨rfl, hs1, hk1, hB1⟩
  replace hg10 := kept_blk hk1 hg10 (by omega)
  replace hg27 := kept_blk hk1 hg27 (by omega)
  replace hB := hB.trans (hB1 w.heap.size (by omega) hB.size)
  clear hk1 hB1
  have hc10 := blk_cell hg10
  have hc27 := blk_cell hg27
  have hf27 := blk_frozen hg27
  go_wp2_with fail
  refine bodyPost_ret (v := .tuple #[.agg #[.int .i64 0, .int .i64 0, .string ⟨#[]⟩, .string ⟨#[]⟩], .int .i64 0, .int .i64 3]) (by simp [results, Try.results25, go_sem, hc27]) rfl ⟨by first | rfl | (simp [snapR]; done), ?_⟩
  with_reducible exact below_setb (below_setb (below_setb (below_setb hB (Nat.le_refl _)) (Nat.le_refl _)) (Nat.le_refl _)) (Nat.le_refl _)

theorem snap_corrupt (k : Nat) (A0 : Option Addr) (c0 : Nat) (l0 : List Int) (kind n : Int) (body : List Int) (w : World) (hr0 : Kd.C (Kd.int .u8) w A0 l0.length l0) (hc0 : l0.length ≤ c0) (h : frame_Open.f k l0 = some (kind, body, n, 0))
   {x1 x2 x4 : Int} {x3 : ByteArray} {l1 l2 l3 l4 : List Int} {b1 b2 b3 b4 : Bool} (h1 : rdNum k body false = some (x1, l1, b1)) (h2 : rdNum k l1 b1 = some (x2, l2, b2)) (h3 : rdText k l2 b2 = some (x3, l3, b3)) (h4 : rdNum k l3 b3 = some (x4, l4, b4)) (hk3 : kind = 3)
    {m m2 : Bool} (hm : (!b4 && l4.isEmpty) = true → wal_may.f k x1 x2 x3 ⟨#[]⟩ = some m) (hm2 : (!b4 && l4.isEmpty) = true → m = true → wal_in.f k 0 200000 [x4] = some m2) (hno : ((!b4 && l4.isEmpty) && (m && m2)) = false) :
    Calls Try.prog 25 #[.slice A0 l0.length c0] w (DecPost w (snapR false 0 0 ⟨#[]⟩ ⟨#[]⟩ 0)) := by
  have e1 : (kind == 3) = true := by simpa using hk3
  have e2 : (kind != 3) = false := by simpa using hk3
  clear hk3
  have HM := Aside0.mk hm
  have HM2 := Aside0.mk hm2
  have HN := Aside0.mk hno
  clear hm hm2 hno
  go_enter Try.func25, Try.ntmps25
  go_wp2_with (go_at_call 38; refine (frame_Open.calls k A0 c0 l0 kind body n 0 _ (Kd.C_below hr0 (below_alloc (Below.refl _ _) _)) hc0 h).mono ?_; rintro e w5 ⟨v1, rfl, ho, hb⟩; obtain ⟨A1, c1, rfl, hcc, hrr⟩ := Kd.R_reads ho; have hg2 := blk_below (blk_new w _) hb)
  have hlt := blk_lt hg2
  have hs0 : IsRd 78 (fun k => k < w5.heap.size) (w5.alloc (.cells #[.slice A1 body.length c1, .bool false] 78)) w5.heap.size body false :=
    ⟨A1, c1, blk_new w5 _, hcc, Kd.F_alloc (Kd.C_F (Kd.heap_int .u8) hrr) _⟩
  have hg27 := blk_below hg2 (below_alloc (Below.refl w5.heap.size w5) (.cells #[.slice A1 body.length c1, .bool false] 78))
  have hB5 := below_step (below_alloc (Below.refl w.heap.size w) _) hb
  have hB : Below w.heap.size w (w5.alloc (.cells #[.slice A1 body.length c1, .bool false] 78)) := below_alloc hB5 (.cells #[.slice A1 body.length c1, .bool false] 78)
  have hl0 : w5.heap.size + 1 ≤ (w5.alloc (.cells #[.slice A1 body.length c1, .bool false] 78)).heap.size := by simp
  refine (num_call hs0 (Nat.lt_irrefl _) h1).mono ?_
  clear hs0
  rintro e wa1 ⟨rfl, hs1, hk1, hB1⟩
  replace hg27 := kept_blk hk1 hg27 (by omega)
  have hl1 : w5.heap.size < wa1.heap.size := Nat.lt_of_lt_of_le (by omega) hk1.1
  replace hB := hB.trans (hB1 w.heap.size (by omega) hB.size)
  clear hk1 hB1 hl0
  go_wp2_with fail
  have hs0 : IsRd 78 (fun k => k < w5.heap.size) (wa1.alloc (.cells #[.int .i64 x1, .int .i64 0, .string ⟨#[]⟩, .string ⟨#[]⟩] 56)) w5.heap.size l1 b1 := by
    obtain ⟨A, c, q1, q2, q3⟩ := hs1
    exact ⟨A, c, blk_below q1 (below_alloc (Below.refl _ _) _), q2, Kd.F_alloc q3 _⟩
  clear hs1
  have hg10 := blk_new wa1 (.cells #[.int .i64 x1, .int .i64 0, .string ⟨#[]⟩, .string ⟨#[]⟩] 56)
  replace hg27 := blk_below hg27 (below_alloc (Below.refl wa1.heap.size wa1) (.cells #[.int .i64 x1, .int .i64 0, .string ⟨#[]⟩, .string ⟨#[]⟩] 56))
  replace hB := below_alloc hB (.cells #[.int .i64 x1, .int .i64 0, .string ⟨#[]⟩, .string ⟨#[]⟩] 56)
  obtain ⟨g10, hg10e⟩ : ∃ g, g = wa1.heap.size := ⟨_, rfl⟩
  rw [← hg10e] at hg10
  have hlg : w5.heap.size < g10 := by omega
  generalize wa1.alloc (.cells #[.int .i64 x1, .int .i64 0, .string ⟨#[]⟩, .string ⟨#[]⟩] 56) = wb1 at hg10 hg27 hs0 hB ⊢
  rw [← hg10e]
  clear hg10e hl1
  refine (num_call hs0 (Nat.lt_irrefl _) h2).mono ?_
  clear hs0
  rintro e wa2 ⟨rfl, hs1, hk1, hB1⟩
  replace hg10 := kept_blk hk1 hg10 (by omega)
  replace hg27 := kept_blk hk1 hg27 (by omega)
  replace hB := hB.trans (hB1 w.heap.size (by omega) hB.size)
  clear hk1 hB1
  have hc10 := blk_cell hg10
  have hf10 := blk_frozen hg10
  go_wp2_with fail
  clear hc10 hf10
  replace hg10 := blk_set hg10 1 (.int .i64 x2)
  simp only [List.setIfInBounds_toArray, List.set_cons_zero, List.set_cons_succ] at hg10
  replace hg27 := blk_far hg27 (p := ⟨g10, 1, none⟩) (by show w.heap.size ≠ g10; omega) (.int .i64 x2)
  have hs0 := hs1.far (i := 1) (u := .int .i64 x2) (show w5.heap.size ≠ g10 by omega) (by omega)
  clear hs1
  replace hB := below_setb (i := 1) (v := .int .i64 x2) hB (show w.heap.size ≤ g10 by omega)
  generalize wa2.setCell ⟨g10, 1, none⟩ (.int .i64 x2) = wb2 at hg10 hg27 hs0 hB ⊢
  clear wa2
  refine (text_call hs0 (Nat.lt_irrefl _) h3).mono ?_
  clear hs0
  rintro e wa3 ⟨rfl, hs1, hk1, hB1⟩
  replace hg10 := kept_blk hk1 hg10 (by omega)
  replace hg27 := kept_blk hk1 hg27 (by omega)
  replace hB := hB.trans (hB1 w.heap.size (by omega) hB.size)
  clear hk1 hB1
  have hc10 := blk_cell hg10
  have hf10 := blk_frozen hg10
  go_wp2_with fail
  clear hc10 hf10
  replace hg10 := blk_set hg10 2 (.string x3)
  simp only [List.setIfInBounds_toArray, List.set_cons_zero, List.set_cons_succ] at hg10
  replace hg27 := blk_far hg27 (p := ⟨g10, 2, none⟩) (by show w.heap.size ≠ g10; omega) (.string x3)
  have hs0 := hs1.far (i := 2) (u := .string x3) (show w5.heap.size ≠ g10 by omega) (by omega)
  clear hs1
  replace hB := below_setb (i := 2) (v := .string x3) hB (show w.heap.size ≤ g10 by omega)
  generalize wa3.setCell ⟨g10, 2, none⟩ (.string x3) = wb3 at hg10 hg27 hs0 hB ⊢
  clear wa3
  refine (num_call hs0 (Nat.lt_irrefl _) h4).mono ?_
  clear hs0
  rintro e wa4 ⟨rfl, hs1, hk1, hB1⟩
  replace hg10 := kept_blk hk1 hg10 (by omega)
  replace hg27 := kept_blk hk1 hg27 (by omega)
  replace hB := hB.trans (hB1 w.heap.size (by omega) hB.size)
  clear hk1 hB1
  have hc10 := blk_cell hg10
  have hc27 := blk_cell hg27
  have hf27 := blk_frozen hg27
  go_wp2_with fail
  refine (done_walk hs1).mono ?_
  rintro e w' ⟨rfl, rfl⟩
  cases hd : (!b4 && l4.isEmpty)
  · go_wp2_with fail
    refine bodyPost_ret (v := .tuple #[.agg #[.int .i64 0, .int .i64 0, .string ⟨#[]⟩, .string ⟨#[]⟩], .int .i64 0, .int .i64 3]) (by simp [results, Try.results25, go_sem, hc27]) rfl ⟨by first | rfl | (simp [snapR]; done), ?_⟩
    with_reducible exact below_setb (below_setb (below_setb (below_setb hB (Nat.le_refl _)) (Nat.le_refl _)) (Nat.le_refl _)) (Nat.le_refl _)
  · have hm := HM.out hd
    go_wp2_with fail
    clear hc10 hc27 hf27
    refine (wal_may.calls k x1 x2 x3 ⟨#[]⟩ m _ hm).mono ?_
    rintro e w11 ⟨rfl, hb11⟩
    replace hg10 := blk_below hg10 hb11
    replace hg27 := blk_below hg27 hb11
    replace hB := below_step hB hb11
    clear hb11
    cases m with
    | false =>
      have hc10 := blk_cell hg10
      have hc27 := blk_cell hg27
      have hf27 := blk_frozen hg27
      go_wp2_with fail
      refine bodyPost_ret (v := .tuple #[.agg #[.int .i64 0, .int .i64 0, .string ⟨#[]⟩, .string ⟨#[]⟩], .int .i64 0, .int .i64 3]) (by simp [results, Try.results25, go_sem, hc27]) rfl ⟨by first | rfl | (simp [snapR]; done), ?_⟩
      with_reducible exact below_setb (below_setb (below_setb (below_setb hB (Nat.le_refl _)) (Nat.le_refl _)) (Nat.le_refl _)) (Nat.le_refl _)
    | true =>
      have hm2 := HM2.out hd rfl
      obtain rfl : m2 = false := by have := HN.out; rw [hd] at this; simpa using this
      go_wp2_with fail
      refine calls_of_args (args' := #[.int .i64 0, .int .i64 200000, .slice (some ⟨w11.heap.size, 0, none⟩) ([x4] : List Int).length 1]) (by first | (with_reducible rfl) | rfl) ?_
      refine (wal_in.calls k 0 200000 (some ⟨w11.heap.size, 0, none⟩) 1 [x4] false _ (one_int w11 x4) (Nat.le_refl _) hm2).mono ?_
      rintro e w12 ⟨rfl, hd12⟩
      have hb11 := below_step (below_alloc (Below.refl w11.heap.size w11) (.cells #[.int .i64 x4] 2)) hd12.below
      replace hg10 := blk_below hg10 hb11
      replace hg27 := blk_below hg27 hb11
      replace hB := below_step hB hb11
      clear hb11
      have hc10 := blk_cell hg10
      have hc27 := blk_cell hg27
      have hf27 := blk_frozen hg27
      go_wp2_with fail
      refine bodyPost_ret (v := .tuple #[.agg #[.int .i64 0, .int .i64 0, .string ⟨#[]⟩, .string ⟨#[]⟩], .int .i64 0, .int .i64 3]) (by simp [results, Try.results25, go_sem, hc27]) rfl ⟨by first | rfl | (simp [snapR]; done), ?_⟩
      with_reducible exact below_setb (below_setb (below_setb (below_setb hB (Nat.le_refl _)) (Nat.le_refl _)) (Nat.le_refl _)) (Nat.le_refl _)

def snapLoop : Nat → List Int → Int → Int → ByteArray → List Int → Int → Int → Option (Int × Int × ByteArray × ByteArray × Int × Int)
  | 0, _, _, _, _, _, _, _ => none
  | k + 1, l0, x1, x2, x3, all, left, pos =>
    if left > 0 then
      if 0 ≤ pos then if pos ≤ (l0.length : Int) then
        (frame_Open.f k (l0.drop pos.toNat)).bind fun o =>
          if o.2.2.2 = 0 then
            if o.1 = 4 then
              if (o.2.1.length : Int) = (if 3000 < left then 3000 else left) then
                if all.length + o.2.1.length < 140737488355328 then snapLoop k l0 x1 x2 x3 (all ++ o.2.1) (wrap64 (left - (o.2.1.length : Int))) (wrap64 (pos + o.2.2.1)) else none
              else some (0, 0, ⟨#[]⟩, ⟨#[]⟩, 0, 3)
            else some (0, 0, ⟨#[]⟩, ⟨#[]⟩, 0, 3)
          else some (0, 0, ⟨#[]⟩, ⟨#[]⟩, 0, o.2.2.2)
      else none else none
    else some (x1, x2, x3, strOfNums all, pos, 0)
set_option maxRecDepth 100000 in
set_option maxHeartbeats 1600000 in
theorem snap_loop (k : Nat) (A0 : Option Addr) (c0 : Nat) (l0 : List Int) (kind n : Int) (body : List Int) (w : World) (hr0 : Kd.C (Kd.int .u8) w A0 l0.length l0) (hc0 : l0.length ≤ c0) (h : frame_Open.f k l0 = some (kind, body, n, 0))
   {x1 x2 x4 : Int} {x3 : ByteArray} {l1 l2 l3 l4 : List Int} {b1 b2 b3 b4 : Bool} (h1 : rdNum k body false = some (x1, l1, b1)) (h2 : rdNum k l1 b1 = some (x2, l2, b2)) (h3 : rdText k l2 b2 = some (x3, l3, b3)) (h4 : rdNum k l3 b3 = some (x4, l4, b4)) (hk3 : kind = 3)
    (hdn : (!b4 && l4.isEmpty) = true) (hm : wal_may.f k x1 x2 x3 ⟨#[]⟩ = some true) (hm2 : wal_in.f k 0 200000 [x4] = some true) {r1 r2 r5 r6 : Int} {r3 r4 : ByteArray} (hL : snapLoop k l0 x1 x2 x3 [] x4 n = some (r1, r2, r3, r4, r5, r6)) :
    Calls Try.prog 25 #[.slice A0 l0.length c0] w (DecPost w (.tuple #[.agg #[.int .i64 r1, .int .i64 r2, .string r3, .string r4], .int .i64 r5, .int .i64 r6])) := by
  have e1 : (kind == 3) = true := by simpa using hk3
  have e2 : (kind != 3) = false := by simpa using hk3
  clear hk3
  have HL := Aside0.mk hL
  have HD := Aside0.mk hdn
  have HM := Aside0.mk hm
  have HM2 := Aside0.mk hm2
  clear hL hdn hm hm2
  go_enter Try.func25, Try.ntmps25
  go_wp2_with (go_at_call 38; refine (frame_Open.calls k A0 c0 l0 kind body n 0 _ (Kd.C_below hr0 (below_alloc (Below.refl _ _) _)) hc0 h).mono ?_; rintro e w5 ⟨v1, rfl, ho, hb⟩; obtain ⟨A1, c1, rfl, hcc, hrr⟩ := Kd.R_reads ho; have hg2 := blk_below (blk_new w _) hb)
  have hlt := blk_lt hg2
  have hs0 : IsRd 78 (fun k => k < w5.heap.size) (w5.alloc (.cells #[.slice A1 body.length c1, .bool false] 78)) w5.heap.size body false :=
    ⟨A1, c1, blk_new w5 _, hcc, Kd.F_alloc (Kd.C_F (Kd.heap_int .u8) hrr) _⟩
  have hg27 := blk_below hg2 (below_alloc (Below.refl w5.heap.size w5) (.cells #[.slice A1 body.length c1, .bool false] 78))
  have hB5 := below_step (below_alloc (Below.refl w.heap.size w) _) hb
  have hB : Below w.heap.size w (w5.alloc (.cells #[.slice A1 body.length c1, .bool false] 78)) := below_alloc hB5 (.cells #[.slice A1 body.length c1, .bool false] 78)
  have hl0 : w5.heap.size + 1 ≤ (w5.alloc (.cells #[.slice A1 body.length c1, .bool false] 78)).heap.size := by simp
  refine (num_call hs0 (Nat.lt_irrefl _) h1).mono ?_
  clear hs0
  rintro e wa1 ⟨rfl, hs1, hk1, hB1⟩
  replace hg27 := kept_blk hk1 hg27 (by omega)
  have hl1 : w5.heap.size < wa1.heap.size := Nat.lt_of_lt_of_le (by omega) hk1.1
  replace hB := hB.trans (hB1 w.heap.size (by omega) hB.size)
  clear hk1 hB1 hl0
  go_wp2_with fail
  have hs0 : IsRd 78 (fun k => k < w5.heap.size) (wa1.alloc (.cells #[.int .i64 x1, .int .i64 0, .string ⟨#[]⟩, .string ⟨#[]⟩] 56)) w5.heap.size l1 b1 := by
    obtain ⟨A, c, q1, q2, q3⟩ := hs1
    exact ⟨A, c, blk_below q1 (below_alloc (Below.refl _ _) _), q2, Kd.F_alloc q3 _⟩
  clear hs1
  have hg10 := blk_new wa1 (.cells #[.int .i64 x1, .int .i64 0, .string ⟨#[]⟩, .string ⟨#[]⟩] 56)
  replace hg27 := blk_below hg27 (below_alloc (Below.refl wa1.heap.size wa1) (.cells #[.int .i64 x1, .int .i64 0, .string ⟨#[]⟩, .string ⟨#[]⟩] 56))
  replace hB := below_alloc hB (.cells #[.int .i64 x1, .int .i64 0, .string ⟨#[]⟩, .string ⟨#[]⟩] 56)
  obtain ⟨g10, hg10e⟩ : ∃ g, g = wa1.heap.size := ⟨_, rfl⟩
  rw [← hg10e] at hg10
  have hlg : w5.heap.size < g10 := by omega
  generalize wa1.alloc (.cells #[.int .i64 x1, .int .i64 0, .string ⟨#[]⟩, .string ⟨#[]⟩] 56) = wb1 at hg10 hg27 hs0 hB ⊢
  rw [← hg10e]
  clear hg10e hl1
  refine (num_call hs0 (Nat.lt_irrefl _) h2).mono ?_
  clear hs0
  rintro e wa2 ⟨rfl, hs1, hk1, hB1⟩
  replace hg10 := kept_blk hk1 hg10 (by omega)
  replace hg27 := kept_blk hk1 hg27 (by omega)
  replace hB := hB.trans (hB1 w.heap.size (by omega) hB.size)
  clear hk1 hB1
  have hc10 := blk_cell hg10
  have hf10 := blk_frozen hg10
  go_wp2_with fail
  clear hc10 hf10
  replace hg10 := blk_set hg10 1 (.int .i64 x2)
  simp only [List.setIfInBounds_toArray, List.set_cons_zero, List.set_cons_succ] at hg10
  replace hg27 := blk_far hg27 (p := ⟨g10, 1, none⟩) (by show w.heap.size ≠ g10; omega) (.int .i64 x2)
  have hs0 := hs1.far (i := 1) (u := .int .i64 x2) (show w5.heap.size ≠ g10 by omega) (by omega)
  clear hs1
  replace hB := below_setb (i := 1) (v := .int .i64 x2) hB (show w.heap.size ≤ g10 by omega)
  generalize wa2.setCell ⟨g10, 1, none⟩ (.int .i64 x2) = wb2 at hg10 hg27 hs0 hB ⊢
  clear wa2
  refine (text_call hs0 (Nat.lt_irrefl _) h3).mono ?_
  clear hs0
  rintro e wa3 ⟨rfl, hs1, hk1, hB1⟩
  replace hg10 := kept_blk hk1 hg10 (by omega)
  replace hg27 := kept_blk hk1 hg27 (by omega)
  replace hB := hB.trans (hB1 w.heap.size (by omega) hB.size)
  clear hk1 hB1
  have hc10 := blk_cell hg10
  have hf10 := blk_frozen hg10
  go_wp2_with fail
  clear hc10 hf10
  replace hg10 := blk_set hg10 2 (.string x3)
  simp only [List.setIfInBounds_toArray, List.set_cons_zero, List.set_cons_succ] at hg10
  replace hg27 := blk_far hg27 (p := ⟨g10, 2, none⟩) (by show w.heap.size ≠ g10; omega) (.string x3)
  have hs0 := hs1.far (i := 2) (u := .string x3) (show w5.heap.size ≠ g10 by omega) (by omega)
  clear hs1
  replace hB := below_setb (i := 2) (v := .string x3) hB (show w.heap.size ≤ g10 by omega)
  generalize wa3.setCell ⟨g10, 2, none⟩ (.string x3) = wb3 at hg10 hg27 hs0 hB ⊢
  clear wa3
  refine (num_call hs0 (Nat.lt_irrefl _) h4).mono ?_
  clear hs0
  rintro e wa4 ⟨rfl, hs1, hk1, hB1⟩
  replace hg10 := kept_blk hk1 hg10 (by omega)
  replace hg27 := kept_blk hk1 hg27 (by omega)
  replace hB := hB.trans (hB1 w.heap.size (by omega) hB.size)
  clear hk1 hB1
  have hc10 := blk_cell hg10
  have hc27 := blk_cell hg27
  have hf27 := blk_frozen hg27
  go_wp2_with fail
  have hd0 := done_walk hs1
  rw [HD.out] at hd0
  refine hd0.mono ?_
  clear hd0
  rintro e w' ⟨rfl, rfl⟩
  go_wp2_with fail
  clear hc10 hc27 hf27
  refine (wal_may.calls k x1 x2 x3 ⟨#[]⟩ true _ HM.out).mono ?_
  rintro e w11 ⟨rfl, hb11⟩
  replace hg10 := blk_below hg10 hb11
  replace hg27 := blk_below hg27 hb11
  replace hB := below_step hB hb11
  clear hb11
  have hc10 := blk_cell hg10
  have hc27 := blk_cell hg27
  have hf27 := blk_frozen hg27
  go_wp2_with fail
  refine calls_of_args (args' := #[.int .i64 0, .int .i64 200000, .slice (some ⟨w11.heap.size, 0, none⟩) ([x4] : List Int).length 1]) (by first | (with_reducible rfl) | rfl) ?_
  refine (wal_in.calls k 0 200000 (some ⟨w11.heap.size, 0, none⟩) 1 [x4] true _ (one_int w11 x4) (Nat.le_refl _) HM2.out).mono ?_
  rintro e w12 ⟨rfl, hd12⟩
  have hb11 := below_step (below_alloc (Below.refl w11.heap.size w11) (.cells #[.int .i64 x4] 2)) hd12.below
  clear hc10 hc27 hf27
  replace hg10 := blk_below hg10 hb11
  replace hg27 := blk_below hg27 hb11
  replace hB := below_step hB hb11
  clear hb11
  clear hs1 HM HM2 HD h1 h2 h3 h4 h hd12
  go_wp2_with fail
  have HC0 := Aside0.mk hc0
  have HR0 := Aside0.mk hr0
  have HO0 := Aside0.mk (Kd.R_nil (Kd.int .u8) 5 w12 w.heap.size (fun _ => True))
  have HG10 := Aside0.mk hg10
  have HG27 := Aside0.mk hg27
  have HB0 := Aside0.mk hB
  have HLG := Aside0.mk hlg
  have HLT := Aside0.mk hlt
  clear hc0 hr0 hg10 hg27 hB e1 e2 ho hb hrr hcc hg2 hB5 hlg hlt
  go_loopg [7, 11, 12] k (fun kq v7 v11 v12 w' => ∃ (all : List Int) (left pos : Int), v7 = .int .i64 pos ∧ v11 = .int .i64 left ∧ Aside0 (snapLoop kq l0 x1 x2 x3 all left pos = some (r1, r2, r3, r4, r5, r6)) ∧ Aside0 (kq ≤ k) ∧ Aside0 (Kd.R (Kd.int .u8) 5 w' w.heap.size (fun _ => True) v12 all) ∧ Aside0 (w'.heap[g10]? = some (.cells #[.int .i64 x1, .int .i64 x2, .string x3, .string ⟨#[]⟩] 56 (0, 0))) ∧ Aside0 (w'.heap[w.heap.size]? = some (.cells #[.int .i64 0, .int .i64 0, .string ⟨#[]⟩, .string ⟨#[]⟩] 56 (0, 0))) ∧ Aside0 (Below w.heap.size w w'))
  case atStart => exact ⟨[], x4, n, rfl, rfl, HL, ⟨Nat.le_refl _⟩, HO0, HG10, HG27, HB0⟩
  case round =>
    clear HL HO0 HG10 HG27 HB0
    obtain ⟨all, left, pos, rfl, rfl, HA, HK1, HO, HG10, HG27, HB⟩ := hrel
    cases gk with
    | zero => exact absurd HA.out (by simp [snapLoop])
    | succ k1 =>
      have H := HA.out
      clear HA
      simp only [snapLoop] at H
      by_cases c2 : left > 0
      · rw [if_pos c2] at H
        have d2 : decide (left > 0) = true := decide_eq_true c2
        by_cases c3 : 0 ≤ pos
        · rw [if_pos c3] at H
          by_cases c4 : pos ≤ (l0.length : Int)
          · rw [if_pos c4] at H
            obtain ⟨⟨t1, t2, t3, t4⟩, hop, H⟩ := Option.bind_eq_some_iff.1 H
            simp only at H
            have HOP := Aside0.mk hop
            have HH := Aside0.mk H
            clear hop H c2
            obtain ⟨i08, hi08, _, hsz8, _⟩ := info_parts info5
            obtain ⟨A8, hcut8, hA8, hC8⟩ := print_drop_of (P := Try.prog) (Value.int .u8) 0 30 5 .i64 Try.underlying30 hi08 hsz8 A0 c0 l0 pos c3 c4 HC0.out
            have HR8 := Aside0.mk (Kd.C_of_reads (h1 := fun _ => rfl) (hA8 _ (Kd.reads_of_C HR0.out)))
            have HC8 := Aside0.mk hC8
            clear hA8 hC8 hi08 hsz8 c3 c4
            go_wp2_with fail
            refine calls_of_args (args' := #[.slice A8 (l0.drop pos.toNat).length (c0 - pos.toNat)]) (by rw [List.length_drop]) ?_
            refine (frame_Open.calls k1 A8 _ (l0.drop pos.toNat) t1 t2 t3 t4 _ (Kd.C_below HR8.out HB.out) HC8.out HOP.out).mono ?_
            rintro e w13 ⟨v13, rfl, ho, hb⟩
            obtain ⟨A9, c9, rfl, hcc, hrr⟩ := Kd.R_reads ho
            have HG10 := Aside0.mk (blk_below HG10.out hb)
            have HG27 := Aside0.mk (blk_below HG27.out hb)
            have HO := Aside0.mk (Kd.R_below HO.out hb)
            have HB := Aside0.mk (below_step HB.out hb)
            have HRR := Aside0.mk hrr
            have HCC := Aside0.mk hcc
            clear hb ho hrr hcc HR8 HC8 HOP
            have H := HH.out
            clear HH
            by_cases he : t4 = 0
            · subst he
              rw [if_pos rfl] at H
              by_cases hk4 : t1 = 4
              · subst hk4
                rw [if_pos rfl] at H
                by_cases hln : (t2.length : Int) = (if 3000 < left then 3000 else left)
                · rw [if_pos hln] at H
                  by_cases hlm : all.length + t2.length < 140737488355328
                  · rw [if_pos hlm] at H
                    have HLN := Aside0.mk hln
                    have HLM := Aside0.mk hlm
                    have HH := Aside0.mk H
                    clear hln hlm H
                    have hq : ((t2.length : Int) == (if 3000 < left then 3000 else left)) = true := by simpa using HLN.out
                    have hq2 : ((t2.length : Int) != (if 3000 < left then 3000 else left)) = false := by simpa using HLN.out
                    go_wp2_with (first | ((with_reducible refine gate_builtin (b := .append) (xs := #[.tmp 86, .tmp 87]) rfl ?_); at_builtin; refine Kd.R_append_rows (Kd.int .u8) (w0 := w) w.heap.size rfl (.tmp 86) (.tmp 87) 30 5 (.int .u8 0) 1 rfl Try.underlying30 info5 rfl (by decide) (by omega) u12 all t2 _ _ _ (fun _ => True) (fun _ => False) rfl rfl HO.out HRR.out (fun _ _ h => h) (fun _ h => h.elim) (fun _ _ => trivial) HB.out (below_size HB.out) (by have := HLM.out; omega) ?_; intro v88 w88 ho88 hb88 hg88 hat88; have HG10 := Aside0.mk (blk_grown HG10.out hg88 (Kd.R_ne HO.out HG10.out (by decide))); have HG27 := Aside0.mk (blk_grown HG27.out hg88 (Kd.R_ne HO.out HG27.out (by decide))); have HO := Aside0.mk ho88; have HB := Aside0.mk hb88; clear ho88 hb88 hg88 hat88))
                    all_goals
                      go_roundg k1
                      case measure => have := HK1.out; omega
                      case rel => exact ⟨_, _, _, rfl, rfl, HH, ⟨by have := HK1.out; omega⟩, HO, HG10, HG27, HB⟩
                  · rw [if_neg hlm] at H
                    exact absurd H (by simp)
                · rw [if_neg hln] at H
                  simp only [Option.some.injEq, Prod.mk.injEq] at H
                  obtain ⟨rfl, rfl, rfl, rfl, rfl, rfl⟩ := H
                  have hq : ((t2.length : Int) == (if 3000 < left then 3000 else left)) = false := by simpa using hln
                  have hq2 : ((t2.length : Int) != (if 3000 < left then 3000 else left)) = true := by simpa using hln
                  clear hln
                  have hc27 := blk_cell HG27.out
                  have hf27 := blk_frozen HG27.out
                  go_wp2_with fail
                  all_goals
                    refine bodyPost_ret (v := .tuple #[.agg #[.int .i64 0, .int .i64 0, .string ⟨#[]⟩, .string ⟨#[]⟩], .int .i64 0, .int .i64 3]) (by simp [results, Try.results25, go_sem, hc27]) rfl ⟨rfl, ?_⟩
                    with_reducible exact below_setb (below_setb (below_setb (below_setb HB.out (Nat.le_refl _)) (Nat.le_refl _)) (Nat.le_refl _)) (Nat.le_refl _)
              · rw [if_neg hk4] at H
                simp only [Option.some.injEq, Prod.mk.injEq] at H
                obtain ⟨rfl, rfl, rfl, rfl, rfl, rfl⟩ := H
                have e1 : (t1 == 4) = false := by simpa using hk4
                have e2 : (t1 != 4) = true := by simpa using hk4
                clear hk4
                have hc27 := blk_cell HG27.out
                have hf27 := blk_frozen HG27.out
                go_wp2_with fail
                refine bodyPost_ret (v := .tuple #[.agg #[.int .i64 0, .int .i64 0, .string ⟨#[]⟩, .string ⟨#[]⟩], .int .i64 0, .int .i64 3]) (by simp [results, Try.results25, go_sem, hc27]) rfl ⟨rfl, ?_⟩
                with_reducible exact below_setb (below_setb (below_setb (below_setb HB.out (Nat.le_refl _)) (Nat.le_refl _)) (Nat.le_refl _)) (Nat.le_refl _)
            · rw [if_neg he] at H
              simp only [Option.some.injEq, Prod.mk.injEq] at H
              obtain ⟨rfl, rfl, rfl, rfl, rfl, rfl⟩ := H
              have e1 : (t4 == 0) = false := by simpa using he
              have e2 : (t4 != 0) = true := by simpa using he
              clear he
              have hc27 := blk_cell HG27.out
              have hf27 := blk_frozen HG27.out
              go_wp2_with fail
              refine bodyPost_ret (v := .tuple #[.agg #[.int .i64 0, .int .i64 0, .string ⟨#[]⟩, .string ⟨#[]⟩], .int .i64 0, .int .i64 t4]) (by simp [results, Try.results25, go_sem, hc27]) rfl ⟨rfl, ?_⟩
              with_reducible exact below_setb (below_setb (below_setb (below_setb HB.out (Nat.le_refl _)) (Nat.le_refl _)) (Nat.le_refl _)) (Nat.le_refl _)
          · rw [if_neg c4] at H
            exact absurd H (by simp)
        · rw [if_neg c3] at H
          exact absurd H (by simp)
      · rw [if_neg c2] at H
        have d2 : decide (left > 0) = false := decide_eq_false c2
        clear c2
        simp only [Option.some.injEq, Prod.mk.injEq] at H
        obtain ⟨rfl, rfl, rfl, rfl, rfl, rfl⟩ := H
        have hcv := own_string (P := Try.prog) Try.underlying30 Try.underlying5 Try.underlying9 (Kd.own_of_R HO.out)
        have hc10 := blk_cell HG10.out
        have hf10 := blk_frozen HG10.out
        have hc27 := blk_cell HG27.out
        have hf27 := blk_frozen HG27.out
        have hlg := HLG.out
        have hlt := HLT.out
        have hne : w.heap.size ≠ g10 := by omega
        have hne2 : g10 ≠ w.heap.size := by omega
        go_wp2_with fail
        refine bodyPost_ret (v := .tuple #[.agg #[.int .i64 x1, .int .i64 x2, .string x3, .string (strOfNums all)], .int .i64 pos, .int .i64 0]) (by simp [results, Try.results25, go_sem, hc27, hne, hne2]) rfl ⟨rfl, ?_⟩
        have hBe := below_setb (i := 3) (v := .string (strOfNums all)) HB.out (show w.heap.size ≤ g10 by omega)
        with_reducible exact below_setb (below_setb (below_setb (below_setb hBe (Nat.le_refl _)) (Nat.le_refl _)) (Nat.le_refl _)) (Nat.le_refl _)

/-- What it computes. -/
def wal_GetSnap.f (k : Nat) (l0 : List Int) : Option (Int × Int × ByteArray × ByteArray × Int × Int) :=
  (frame_Open.f k l0).bind fun o =>
  if o.2.2.2 = 0 then
    (rdNum k o.2.1 false).bind fun s1 => (rdNum k s1.2.1 s1.2.2).bind fun s2 => (rdText k s2.2.1 s2.2.2).bind fun s3 => (rdNum k s3.2.1 s3.2.2).bind fun s4 =>
    if o.1 = 3 then
      if (!s4.2.2 && s4.2.1.isEmpty) = true then
        (wal_may.f k s1.1 s2.1 s3.1 ⟨#[]⟩).bind fun m => if m = true then
          (wal_in.f k 0 200000 [s4.1]).bind fun m2 => if m2 = true then snapLoop k l0 s1.1 s2.1 s3.1 [] s4.1 o.2.2.1 else some (0, 0, ⟨#[]⟩, ⟨#[]⟩, 0, 3)
        else some (0, 0, ⟨#[]⟩, ⟨#[]⟩, 0, 3)
      else some (0, 0, ⟨#[]⟩, ⟨#[]⟩, 0, 3)
    else some (0, 0, ⟨#[]⟩, ⟨#[]⟩, 0, 3)
  else some (0, 0, ⟨#[]⟩, ⟨#[]⟩, 0, o.2.2.2)
theorem snapLoop.mono : ∀ k (l0 : List Int) (x1 x2 : Int) (x3 : ByteArray) (all : List Int) (left pos : Int), LeO (snapLoop k l0 x1 x2 x3 all left pos) (snapLoop (k + 1) l0 x1 x2 x3 all left pos)
  | 0 => fun _ _ _ _ _ _ _ r h => by simp [snapLoop] at h
  | k + 1 => by
    intro l0 x1 x2 x3 all left pos
    unfold snapLoop
    exact LeO.ite (LeO.ite (LeO.ite (LeO.bind (frame_Open.mono _ _) (fun o => LeO.ite (LeO.ite (LeO.ite (LeO.ite (snapLoop.mono k _ _ _ _ _ _ _) (LeO.refl _)) (LeO.refl _)) (LeO.refl _)) (LeO.refl _))) (LeO.refl _)) (LeO.refl _)) (LeO.refl _)
theorem wal_GetSnap.mono : ∀ a0 k, LeO (wal_GetSnap.f k a0) (wal_GetSnap.f (k + 1) a0) := by
  intro a0 k
  unfold wal_GetSnap.f
  exact LeO.bind (frame_Open.mono _ _) (fun o => LeO.ite (LeO.bind (rdNum.mono _ _ _) (fun s1 => LeO.bind (rdNum.mono _ _ _) (fun s2 => LeO.bind (rdText.mono _ _ _) (fun s3 => LeO.bind (rdNum.mono _ _ _) (fun s4 => LeO.ite (LeO.ite (LeO.bind (wal_may.mono _ _ _ _ _) (fun m => LeO.ite (LeO.bind (wal_in.mono _ _ _ _) (fun m2 => LeO.ite (snapLoop.mono _ _ _ _ _ _ _ _) (LeO.refl _))) (LeO.refl _))) (LeO.refl _)) (LeO.refl _)))))) (LeO.refl _))
theorem wal_GetSnap.calls (k : Nat) (A0 : Option Addr) (c0 : Nat) (l0 : List Int) (r1 : Int) (r2 : Int) (r3 : ByteArray) (r4 : ByteArray) (r5 : Int) (r6 : Int) (w : World) (hr0 : Kd.C (Kd.int .u8) w A0 l0.length l0) (hc0 : l0.length ≤ c0) (h : wal_GetSnap.f k l0 = some (r1, r2, r3, r4, r5, r6)) :
    Calls Try.prog 25 #[.slice A0 l0.length c0] w fun e w' => e = .returned (.tuple #[.agg #[.int .i64 r1, .int .i64 r2, .string r3, .string r4], .int .i64 r5, .int .i64 r6]) ∧ Below w.heap.size w w' := by
  unfold wal_GetSnap.f at h
  obtain ⟨⟨kind, body, n, err⟩, ho, h⟩ := Option.bind_eq_some_iff.1 h
  simp only at h
  by_cases he : err = 0
  · subst he
    rw [if_pos rfl] at h
    obtain ⟨⟨x1, l1, b1⟩, h1, h⟩ := Option.bind_eq_some_iff.1 h
    obtain ⟨⟨x2, l2, b2⟩, h2, h⟩ := Option.bind_eq_some_iff.1 h
    obtain ⟨⟨x3, l3, b3⟩, h3, h⟩ := Option.bind_eq_some_iff.1 h
    obtain ⟨⟨x4, l4, b4⟩, h4, h⟩ := Option.bind_eq_some_iff.1 h
    simp only at h2 h3 h4 h
    by_cases hk : kind = 3
    · rw [if_pos hk] at h
      by_cases hd : (!b4 && l4.isEmpty) = true
      · rw [if_pos hd] at h
        obtain ⟨m, hm, h⟩ := Option.bind_eq_some_iff.1 h
        cases m with
        | false =>
          simp at h
          obtain ⟨rfl, rfl, rfl, rfl, rfl, rfl⟩ := h
          exact snap_corrupt k A0 c0 l0 kind n body w hr0 hc0 ho h1 h2 h3 h4 hk (m := false) (m2 := false) (fun _ => hm) (fun _ h => by cases h) (by simp)
        | true =>
          rw [if_pos rfl] at h
          obtain ⟨m2, hm2, h⟩ := Option.bind_eq_some_iff.1 h
          cases m2 with
          | false =>
            simp at h
            obtain ⟨rfl, rfl, rfl, rfl, rfl, rfl⟩ := h
            exact snap_corrupt k A0 c0 l0 kind n body w hr0 hc0 ho h1 h2 h3 h4 hk (m := true) (m2 := false) (fun _ => hm) (fun _ _ => hm2) (by simp)
          | true =>
            rw [if_pos rfl] at h
            exact snap_loop k A0 c0 l0 kind n body w hr0 hc0 ho h1 h2 h3 h4 hk hd hm hm2 h
      · rw [if_neg hd] at h
        simp at h
        obtain ⟨rfl, rfl, rfl, rfl, rfl, rfl⟩ := h
        exact snap_corrupt k A0 c0 l0 kind n body w hr0 hc0 ho h1 h2 h3 h4 hk (m := false) (m2 := false) (fun h => absurd h hd) (fun h => absurd h hd) (by simp)
    · rw [if_neg hk] at h
      simp at h
      obtain ⟨rfl, rfl, rfl, rfl, rfl, rfl⟩ := h
      exact snap_kind k A0 c0 l0 kind n body w hr0 hc0 ho h1 h2 h3 h4 hk
  · rw [if_neg he] at h
    simp at h
    obtain ⟨rfl, rfl, rfl, rfl, rfl, rfl⟩ := h
    exact snap_err k A0 c0 l0 kind n err body w hr0 hc0 ho he


end Go.Proofs.Ytoamlagpnnmnhab.PWalTorn
