/- Part of a machine of its own for this claim: the program's code over memory without draws. -/
import Derived.Test.YtoamlagpnnmnhaaAmRep15
set_option linter.unusedVariables false
set_option linter.unusedSimpArgs false
set_option linter.unnecessarySimpa false
/- Rows of one's own: written over, cleared, taken out of. -/
set_option linter.unusedSimpArgs false
namespace Go.AM
open Go
variable {P : Program} {E : TypeId → Bool} {H0 Hm H H' : Heap} {A : Option Addr} {c sz n m p q : Nat}

theorem My.prefix {rows more : List (List Value)} (h : My H0 H A c sz (rows ++ more)) : My H0 H A c sz rows := by
  rcases h with ⟨h, e⟩ | ⟨b, o, cs, opn, h1, h2, h3, h4, h5, h6, h7, h8⟩
  · exact .inl ⟨(List.append_eq_nil_iff.1 h).1, e⟩
  · have hm : rows.length * sz + more.length * sz = (rows ++ more).length * sz := by rw [List.length_append, Nat.add_mul]
    refine .inr ⟨b, o, cs, opn, h1, h2, h3, h4, fun r hr => h5 r (List.mem_append_left _ hr), ?_, by omega, h8.imp id fun ⟨a, b, d⟩ => ⟨a, ?_, d⟩⟩
    · have hf := flatten_len rows (fun r hr => h5 r (List.mem_append_left _ hr))
      have e : (cs.drop o).take (rows.length * sz) = ((cs.drop o).take ((rows ++ more).length * sz)).take (rows.length * sz) := by rw [List.take_take]; congr 1; omega
      rw [e, h6, List.flatten_append, ← hf, List.take_left]
    · rw [List.length_append] at b; omega
theorem over_list {cs F nf : List Value} {o a : Nat} (h : (cs.drop o).take F.length = F) (hl : o + F.length ≤ cs.length) (ha : a + nf.length ≤ F.length) :
    ((cs.take (o + a) ++ nf ++ cs.drop (o + a + nf.length)).drop o).take F.length = F.take a ++ nf ++ F.drop (a + nf.length) ∧ (cs.take (o + a) ++ nf ++ cs.drop (o + a + nf.length)).length = cs.length := by
  constructor
  · refine List.ext_getElem? fun j => ?_
    have hF : ∀ j, j < F.length → F[j]? = cs[o + j]? := fun j hj => by
      have := congrArg (fun l => l[j]?) h
      simp only [List.getElem?_take, if_pos hj, List.getElem?_drop] at this
      exact this.symm
    rw [List.getElem?_take]
    split
    · rename_i hj
      rw [List.getElem?_drop]
      have l1 : (cs.take (o + a)).length = o + a := by rw [List.length_take]; omega
      have l2 : (F.take a).length = a := by rw [List.length_take]; omega
      rcases Nat.lt_or_ge j a with h1 | h1
      · rw [List.append_assoc, List.getElem?_append_left (by omega), List.append_assoc, List.getElem?_append_left (by omega), List.getElem?_take, if_pos (by omega), List.getElem?_take, if_pos h1, hF j hj]
      · rcases Nat.lt_or_ge j (a + nf.length) with h2 | h2
        · rw [List.append_assoc, List.getElem?_append_right (by omega), List.getElem?_append_left (by omega), List.append_assoc, List.getElem?_append_right (by omega), List.getElem?_append_left (by omega)]
          congr 1
          omega
        · rw [List.getElem?_append_right (by rw [List.length_append]; omega), List.getElem?_append_right (by rw [List.length_append]; omega), List.getElem?_drop, List.getElem?_drop, List.length_append, List.length_append, l1, l2, hF _ (by omega)]
          congr 1
          omega
    · rename_i hj
      rw [List.getElem?_eq_none]
      simp only [List.length_append, List.length_take, List.length_drop]
      omega
  · simp only [List.length_append, List.length_take, List.length_drop]
    omega
/-- A part of one's own is written over. -/
theorem my_over {rows new : List (List Value)} (hk : My H0 H A c sz rows) (hn : new ≠ []) (hpq : p + new.length ≤ rows.length) (hlen : ∀ r ∈ new, r.length = sz) (h1 : new.flatten.all Value.oneCell' = true) :
    ∃ b o H1, A = some ⟨b, o, none⟩ ∧ H.put ⟨b, o + p * sz, none⟩ new.flatten = some H1 ∧ H1.next = H.next ∧ My H0 H1 A c sz (rows.take p ++ new ++ rows.drop (p + new.length)) ∧ (∀ q, q ≠ b → H1.blk q = H.blk q) ∧ ZB H b sz ∧ H0.next ≤ b := by
  have hn0 : 0 < new.length := List.length_pos_iff.2 hn
  rcases hk with ⟨rfl, _⟩ | ⟨b, o, cs, opn, rfl, hk3, hk4, hk5, hk6, hk7, hk8, hk9⟩
  · rw [List.length_nil] at hpq; omega
  · have hF := flatten_len rows hk6
    have hN := flatten_len new hlen
    have hm : p * sz + new.length * sz ≤ rows.length * sz := by rw [← Nat.add_mul]; exact Nat.mul_le_mul_right _ hpq
    obtain ⟨e1, e2⟩ := over_list (cs := cs) (F := rows.flatten) (nf := new.flatten) (o := o) (a := p * sz) (by rw [hF]; exact hk7) (by omega) (by omega)
    obtain ⟨H1, p1, p2, p3, p4⟩ := put_facts (o := o + p * sz) (vs := new.flatten) (cs' := cs.take (o + p * sz) ++ new.flatten ++ cs.drop (o + p * sz + new.flatten.length)) hk5 (by apply Nat.ble_eq_true_of_le; omega) h1 rfl
    have hl : (rows.take p ++ new ++ rows.drop (p + new.length)).length = rows.length := by simp only [List.length_append, List.length_take, List.length_drop]; omega
    refine ⟨b, o, H1, rfl, p1, p2, .inr ⟨b, o, _, opn, rfl, hk3, by omega, p3, ?_, ?_, ?_, ?_⟩, p4, ⟨_, hk5, rfl⟩, hk3⟩
    · intro r hr
      rcases List.mem_append.1 hr with hr | hr
      · rcases List.mem_append.1 hr with hr | hr
        · exact hk6 r (List.mem_of_mem_take hr)
        · exact hlen r hr
      · exact hk6 r (List.mem_of_mem_drop hr)
    · rw [hl, ← hF, e1, List.flatten_append, List.flatten_append, flatten_take p hk6, flatten_drop _ _ hk6, hN, Nat.add_mul]
    · rw [hl, e2]; exact hk8
    · rw [hl, e2]; exact hk9
theorem my_fr {rows : List (List Value)} {H1 : Heap} {b o : Nat} (ho : My H0 Hm A c sz rows) (hA : A = some ⟨b, o, none⟩) (hr : rows ≠ []) (hb : H0.next ≤ b) (hz : ZB H b sz) (hn : H1.next = H.next) (hf : ∀ q, q ≠ b → H1.blk q = H.blk q) : Fr (fun b => H0.next ≤ b ∧ b < Hm.next ∧ ZB H b sz) H H1 := by
  refine ⟨by omega, fun q hq hw => hf q ?_⟩
  rintro rfl
  subst hA
  rcases ho with ⟨e, _⟩ | ⟨b', o', _, _, e, h7, h8, _⟩
  · exact hr e
  · cases e
    exact hw ⟨h7, h8, hz⟩
/-- Where a cut begins. -/
theorem slice_off {t : TypeId} {b o k : Nat} {A' : Option Addr} {lo hi mx : Option Value} (hs : elemIs P t sz = true) (h : sliceA P H t (.slice (some ⟨b, o, none⟩) n c) lo hi mx = some (.slice A' q k)) (hp : (lo = none ∧ p = 0) ∨ ∃ kd i, lo = some (.int kd i) ∧ i.toNat = p) : A' = some ⟨b, o + p * sz, none⟩ := by
  unfold elemIs at hs
  split at hs
  · rename_i e hu
    split at hs
    · rename_i s hsz
      have hse := Nat.eq_of_beq_eq_true hs
      subst hse
      unfold sliceA at h
      simp only [hu] at h
      split at h
      · unfold cutA at h
        simp only [Option.bind_eq_bind, Option.bind_eq_some_iff] at h
        obtain ⟨s', hs', m, _, y, _, l, hl, h⟩ := h
        rw [hsz] at hs'
        cases hs'
        split at h
        · cases h
        · simp only [Option.some.injEq, Value.slice.injEq] at h
          have : l = p := by
            rcases hp with ⟨rfl, rfl⟩ | ⟨kd, i, rfl, rfl⟩
            · simp [bound] at hl; omega
            · simp only [bound] at hl
              split at hl
              · cases hl; rfl
              · cases hl
          rw [← h.1, this, add_plain _ rfl]
      · cases h
    · cases hs
  · cases hs
theorem slice_cap {t : TypeId} {k : Nat} {A A' : Option Addr} {hi : Option Value} {o b : Nat} (hA : A = some ⟨b, o, none⟩) (hs : elemIs P t sz = true) (h : sliceA P H t (.slice A n c) none hi none = some (.slice A' q k)) : k = c := by
  subst hA
  unfold elemIs at hs
  split at hs
  · rename_i e hu
    unfold sliceA at h
    simp only [hu] at h
    split at h
    · unfold cutA at h
      simp only [Option.bind_eq_bind, Option.bind_eq_some_iff] at h
      obtain ⟨s', hs', m, hm, y, _, l, hl, h⟩ := h
      simp only [Option.isSome_none, Bool.false_eq_true, if_false, Option.some.injEq] at hm
      simp only [bound, Option.some.injEq] at hl
      subst hm hl
      split at h
      · cases h
      · simp only [Option.some.injEq, Value.slice.injEq] at h
        rw [← h.2.2]
        split <;> omega
    · cases h
  · cases hs
theorem cut_front {α : Type} {L X Y lst junk : List α} {p : Nat} (hL : L = lst ++ junk) (hp : p = lst.length) : (L.take p ++ X ++ Y).take lst.length = lst := by
  subst hL hp
  rw [List.take_left, List.append_assoc, List.take_left]
theorem zeroCells_rep (z : Array Value) : ∀ n, (Builtin.zeroCells z n).toList = (List.replicate n z.toList).flatten := by
  intro n
  refine List.ext_getElem? fun j => ?_
  have hl : ((List.replicate n z.toList).flatten).length = n * z.size := by simp
  rcases Nat.lt_or_ge j (n * z.size) with h | h
  · have hz : 0 < z.size := Nat.pos_of_ne_zero (fun e => by rw [e, Nat.mul_zero] at h; omega)
    have hm : j % z.size < z.size := Nat.mod_lt _ hz
    have e1 : (Builtin.zeroCells z n).toList[j]? = some z[j % z.size]! := by
      simp [Builtin.zeroCells, h]
    rw [e1, getElem!_pos z _ hm]
    have key : ∀ n j, j < n * z.size → (List.replicate n z.toList).flatten[j]? = z[j % z.size]? := by
      intro n
      induction n with
      | zero => intro j hj; rw [Nat.zero_mul] at hj; omega
      | succ n ih =>
        intro j hj
        rw [List.replicate_succ, List.flatten_cons]
        rcases Nat.lt_or_ge j z.size with h | h
        · rw [List.getElem?_append_left (by simpa using h), Nat.mod_eq_of_lt h]; simp
        · rw [List.getElem?_append_right (by simpa using h), Array.length_toList, ih (j - z.size) (by rw [Nat.succ_mul] at hj; omega), Nat.mod_eq_sub_mod h]
    rw [key n j h]
    exact (Array.getElem?_eq_getElem hm).symm
  · rw [List.getElem?_eq_none (by simp [Builtin.zeroCells]; omega), List.getElem?_eq_none (by omega)]
section
variable {α : Type} {f : α → List Value} {l : List α} {e0 : α} {t e bytes : Nat}
theorem ev_clear {dst : Option Tmp} {x : Operand} {ty : TypeId} {pos : String} {af : Array Edge} {g : Option (Nat × Bool)} {R : Regs} {v : Value} {r : Eff} (hx : R.eval x = some v) (hu : P.underlying t = some (.slice e)) (h : clearA P H e v = some r) :
    evOp P E R H ⟨dst, .call { callee := .builtin .clear, args := #[x], argTypes := #[t] }, ty, pos, af, g⟩ = some r := by
  simp only [evOp]
  have : evals R [x] = some [v] := by simp [evals, hx]
  simp only [this, Option.bind_some, builtinA]
  simp [hu, h]
theorem mem_clear {lo hi : Option Value} {A' : Option Addr} {c' : Nat} (ht : ElemOk P t e sz bytes) (hs : elemIs P t sz = true) (hz : ZeroIs P e (f e0)) (hz0 : (f e0).length = sz) (ho : My H0 Hm A c sz (l.map f)) (hk : My H0 H A c sz (l.map f))
    (hsl : sliceA P H' t (.slice A n c) lo hi none = some (.slice A' q c')) (hp : (lo = none ∧ p = 0) ∨ ∃ kd i, lo = some (.int kd i) ∧ i.toNat = p) (hpq : p + q ≤ l.length) :
    ∃ H1 W, (∀ (E : TypeId → Bool) (dst : Option Tmp) (x : Operand) (ty : TypeId) (pos : String) (af : Array Edge) (g : Option (Nat × Bool)) (R : Regs), R.eval x = some (.slice A' q c') → evOp P E R H ⟨dst, .call { callee := .builtin .clear, args := #[x], argTypes := #[t] }, ty, pos, af, g⟩ = some (.tuple #[], H1, W)) ∧
      My H0 H1 A c sz ((l.take p ++ List.replicate q e0 ++ l.drop (p + q)).map f) ∧ Fr (fun b => H0.next ≤ b ∧ b < Hm.next ∧ ZB H b sz) H H1 ∧ H1.next = H.next := by
  obtain ⟨hu, i, _⟩ := ht
  by_cases hq : q = 0
  · subst hq
    refine ⟨H, [], fun E dst x ty pos af g R hx => ev_clear hx hu ?_, by simpa using hk, .refl _ _, rfl⟩
    cases A' <;> simp [clearA]
  · have hrep : (List.replicate q e0).map f = List.replicate q (f e0) := List.map_replicate
    obtain ⟨z, z1, z2, z3, z4⟩ := hz
    obtain ⟨b, o, H1, rfl, r1, r2, r3, r4, r5, r6⟩ := my_over (p := p) (new := List.replicate q (f e0)) hk (by intro e; exact hq (by simpa using congrArg List.length e)) (by rw [List.length_replicate, List.length_map]; exact hpq)
      (fun r hr => by rw [List.eq_of_mem_replicate hr]; exact hz0) (by
        rw [List.all_eq_true]
        intro v hv
        obtain ⟨w, hw, hv⟩ := List.mem_flatten.1 hv
        rw [List.eq_of_mem_replicate hw] at hv
        exact List.all_eq_true.1 z4 v hv)
    have hA := slice_off hs hsl hp
    subst hA
    refine ⟨H1, [b], fun E dst x ty pos af g R hx => ev_clear hx hu ?_, ?_, my_fr ho rfl (by intro e; have := congrArg List.length e; simp at this; subst this; simp at hpq; omega) r6 r5 r2 r4, r2⟩
    · simp only [clearA, if_neg hq, z1, z2, z3, if_true]
      rw [zeroCells_rep, z2, r1]
      rfl
    · rw [List.map_append, List.map_append, hrep, List.map_take, List.map_drop]
      rw [List.length_replicate] at r3
      exact r3
/-- A whole element is written. -/
theorem mem_storeAtN {e1 : α} {i k : Nat} {cs : Array Value} (hs : sizeIs P t k = true) (hk0 : k = sz) (hf : f e1 = cs.toList) (hfl : (f e1).length = sz) (h1 : (f e1).all Value.oneCell' = true) (ho : My H0 Hm A c sz (l.map f)) (hk : My H0 H A c sz (l.map f)) (hi : i < l.length) :
    ∃ H1 W, (∀ (E : TypeId → Bool) (dst : Option Tmp) (a y : Operand) (ty : TypeId) (pos : String) (af : Array Edge) (gd : Option (Nat × Bool)) (R : Regs), R.eval a = some (ptrAt A i sz 0) → R.eval y = some (.agg cs) → evOp P E R H ⟨dst, .store t a y, ty, pos, af, gd⟩ = some (undef, H1, W)) ∧
      My H0 H1 A c sz ((l.set i e1).map f) ∧ Fr (fun b => H0.next ≤ b ∧ b < Hm.next ∧ ZB H b sz) H H1 ∧ H1.next = H.next := by
  obtain ⟨b, o, H1, rfl, r1, r2, r3, r4, r5, r6⟩ := my_over (p := i) (new := [f e1]) hk (by simp) (by simp; omega) (by simp [hfl]) (by simpa using h1)
  refine ⟨H1, [b], fun E dst a y ty pos af gd R ha hy => ?_, ?_, my_fr ho rfl (by intro e; have := congrArg List.length e; simp at this; subst this; simp at hi) r6 r5 r2 r4, r2⟩
  · refine ev_store ha hy (vs := f e1) ?_ (by rw [hfl, hk0]) hs (by simpa using r1)
    rw [hf]; rfl
  · have : (l.set i e1).map f = (l.map f).take i ++ [f e1] ++ (l.map f).drop (i + [f e1].length) := by
      rw [List.map_set, List.set_eq_take_append_cons_drop, if_pos (by simpa using hi)]
      simp
    rw [this]
    exact r3
/-- append(s[:i], s[j:]...). -/
theorem mem_delete {i j : Nat} {hi lo : Option Value} {A1 A2 : Option Addr} {n1 c1 n2 c2 : Nat} {H2 H3 : Heap} (ht : ElemOk P t e sz bytes) (hs : elemIs P t sz = true) (hz : sz ≠ 0) (hf1 : ∀ e, (f e).all Value.oneCell' = true) (ho : My H0 Hm A c sz (l.map f)) (hk : My H0 H A c sz (l.map f))
    (hs1 : sliceA P H2 t (.slice A l.length c) none hi none = some (.slice A1 n1 c1)) (hn1 : n1 = i) (hs2 : sliceA P H3 t (.slice A l.length c) lo none none = some (.slice A2 n2 c2)) (hlo : ∃ kd x, lo = some (.int kd x) ∧ x.toNat = j) (hn2 : n2 = l.length - j) (hij : i ≤ j) (hj : j ≤ l.length) (hl0 : l.length ≠ 0)
    (hb : l.length * bytes ≤ 1099511627776) (hb2 : l.length ≤ 1099511627776) :
    ∃ H1 W, (∀ (E : TypeId → Bool) (dst : Option Tmp) (t2 : TypeId) (s x : Operand) (ty : TypeId) (pos : String) (af : Array Edge) (g : Option (Nat × Bool)) (R : Regs), R.eval s = some (.slice A1 n1 c1) → R.eval x = some (.slice A2 n2 c2) → isRow P (some t2) = true → evOp P E R H ⟨dst, .call { callee := .builtin .append, args := #[s, x], argTypes := #[t, t2] }, ty, pos, af, g⟩ = some (.slice A (l.take i ++ l.drop j).length c, H1, W)) ∧
      My H0 H1 A c sz ((l.take i ++ l.drop j ++ l.drop (i + (l.length - j))).map f) ∧ Fr (fun b => H0.next ≤ b ∧ b < Hm.next ∧ ZB H b sz) H H1 ∧ H1.next = H.next := by
  subst hn1 hn2
  obtain ⟨hu, ie, q1, q2, q3, q4⟩ := ht
  have hlen : (l.take n1 ++ l.drop j).length = n1 + (l.length - j) := by rw [List.length_append, List.length_take, List.length_drop]; omega
  have hA : ∃ b o, A = some ⟨b, o, none⟩ := by
    rcases hk with ⟨h, _⟩ | ⟨b, o, cs, opn, rfl, _⟩
    · have := congrArg List.length h; rw [List.length_map] at this; exact absurd this hl0
    · exact ⟨b, o, rfl⟩
  obtain ⟨b, o, rfl⟩ := hA
  have hc1 := slice_cap rfl hs hs1
  subst hc1
  have hA1 := slice_off (p := 0) hs hs1 (.inl ⟨rfl, rfl⟩)
  obtain ⟨kd, x, rfl, hx⟩ := hlo
  have hA2 := slice_off (p := j) hs hs2 (.inr ⟨kd, x, rfl, hx⟩)
  rw [Nat.zero_mul, Nat.add_zero] at hA1
  subst hA1 hA2
  by_cases hq : l.length - j = 0
  · refine ⟨H, [], fun E dst t2 s x ty pos af g R hs hx hr => ?_, ?_, .refl _ _, rfl⟩
    · refine ev_append hs hx hu hr ?_
      unfold appendA
      simp only [q1, lenA, Option.bind_eq_bind, Option.bind_some, hq, if_true]
      congr 3
      rw [hlen, hq]
      omega
    · rw [hq, List.drop_eq_nil_of_le (show l.length ≤ j by omega), List.append_nil, Nat.add_zero, List.take_append_drop]
      exact hk
  · have hnew : ((l.drop j).map f).length = l.length - j := by rw [List.length_map, List.length_drop]
    obtain ⟨b', o', H1, e, r1, r2, r3, r4, r5, r6⟩ := my_over (p := n1) (new := (l.drop j).map f) hk (by intro e; rw [e] at hnew; simp at hnew; omega) (by rw [hnew, List.length_map]; omega) (fun r hr => by
        have : r ∈ l.map f := by rw [List.map_drop] at hr; exact List.mem_of_mem_drop hr
        rcases hk with ⟨h, _⟩ | ⟨b, o, cs, opn, _, _, _, _, h5, _⟩
        · rw [h] at this; simp at this
        · exact h5 r this) (flat_one hf1 (l.drop j))
    cases e
    have hcap := hk.capF hb2
    have hX : srcCells H sz (.slice (some ⟨b, o + j * sz, none⟩) (l.length - j) c2) = some ((l.drop j).map f).flatten := by
      simp only [srcCells, if_neg hq]
      rcases hk with ⟨h, _⟩ | ⟨b', o', cs, opn, e, _, _, h4, h5, h6, h7, _⟩
      · have := congrArg List.length h; rw [List.length_map] at this; exact absurd this hl0
      · cases e
        rw [List.length_map] at h6 h7
        have hm : j * sz + (l.length - j) * sz = l.length * sz := by rw [← Nat.add_mul]; congr 1; omega
        unfold Heap.cells
        simp only [h4]
        rw [if_pos (by omega), List.map_drop, flatten_drop _ _ h5, ← h6, List.drop_take, List.drop_drop]
        congr 2
        omega
    refine ⟨H1, [b], fun E dst t2 s x ty pos af g R hs hx hr => ?_, ?_, my_fr ho rfl (by intro e; have := congrArg List.length e; rw [List.length_map] at this; exact hl0 this) r6 r5 r2 r4, r2⟩
    · refine ev_append hs hx hu hr ?_
      unfold appendA
      have hone : ((l.drop j).map f).flatten.all Value.oneCell' = true := flat_one hf1 (l.drop j)
      have hmul : (n1 + (l.length - j)) * bytes ≤ l.length * bytes := Nat.mul_le_mul_right _ (by omega)
      simp only [q1, lenA, Option.bind_eq_bind, Option.bind_some, if_neg hq, q2, hX, q3]
      rw [if_neg (by simp only [not_or, Decidable.not_not]; exact ⟨hz, hone, q4, by omega, by omega⟩)]
      by_cases hc : c1 < OPEN
      · rw [if_pos ⟨hc, by omega⟩, add_plain _ rfl, r1, hlen]
        rfl
      · rw [if_neg (fun h => hc h.1), if_neg hc]
        rcases hk with ⟨h, _⟩ | ⟨b', o', cs, opn, e, _, _, h4, h5, h6, h7, h8⟩
        · have := congrArg List.length h; rw [List.length_map] at this; exact absurd this hl0
        · cases e
          rw [List.length_map] at h7 h8
          have hmul2 : (n1 + (l.length - j)) * sz ≤ l.length * sz := Nat.mul_le_mul_right _ (by omega)
          have hmul3 : n1 * sz ≤ l.length * sz := Nat.mul_le_mul_right _ (by omega)
          have ho : opn = true := by rcases h8 with ⟨_, h⟩ | ⟨h, _⟩; exact h; exact absurd h hc
          subst ho
          simp only [h4, Option.bind_some]
          rw [if_neg (by simp; omega), if_pos (by omega), add_plain _ rfl, r1, hlen]
          rfl
    · have e1 : (l.take n1 ++ l.drop j ++ l.drop (n1 + (l.length - j))).map f = (l.map f).take n1 ++ (l.drop j).map f ++ (l.map f).drop (n1 + ((l.drop j).map f).length) := by
        rw [List.map_append, List.map_append, List.map_take, hnew, List.map_drop (i := n1 + (l.length - j))]
      rw [e1]
      exact r3
/-- s[i:j] behind the length. -/
theorem sliceX_my {L : List α} {lo hi : Option Value} {kd : IntKind} {x : Int} {A' : Option Addr} {q' c' : Nat} (hs : elemIs P t sz = true) (hz : sz ≠ 0) (hk : My H0 H A c sz (L.map f)) (hhi : hi = some (.int kd x)) (hx : x = (L.length : Int)) (hm : m ≤ L.length) (hL : L.length ≤ 1099511627776)
    (h : sliceA P H t (.slice A L.length c) lo hi none = some (.slice A' q' c')) : sliceX P H t (.slice A m c) lo hi none = some (.slice A' q' c') := by
  subst hhi hx
  by_cases hmm : m = L.length
  · subst hmm; exact sliceX_of h
  have hcap := hk.capF hL
  unfold elemIs at hs
  split at hs
  · rename_i e hu
    split at hs
    · rename_i s hsz
      have hse := Nat.eq_of_beq_eq_true hs
      subst hse
      rcases hk with ⟨hn, rfl⟩ | ⟨b, o, cs, opn, rfl, h2, h3, hB, h4, h5, h6, h7⟩
      · have := congrArg List.length hn; rw [List.length_map] at this; simp at this; subst this; simp at hm hmm; omega
      · rw [List.length_map] at h5 h6 h7
        by_cases hc : c < OPEN
        · refine sliceX_of ?_
          unfold sliceA at h ⊢
          simp only [hu, hc, decide_true, Bool.true_or, if_true] at h ⊢
          rw [← h]
          unfold cutA
          simp only [if_pos hc, Option.isSome_some, if_true, bound]
        · have hnone : sliceA P H t (.slice (some ⟨b, o, none⟩) m c) lo (some (.int kd (L.length : Int))) none = none := by
            unfold sliceA
            simp only [hu]
            split
            · unfold cutA
              simp only [Option.bind_eq_bind, hsz, Option.bind_some, Option.isSome_none, Bool.false_eq_true, if_false, Option.isSome_some, if_true, if_neg hc, bound]
              rw [if_neg (by omega)]
              rfl
            · rfl
          unfold sliceX
          rw [hnone]
          have hw : wideA H (.slice (some ⟨b, o, none⟩) m c) (some (.int kd (L.length : Int))) = some (.slice (some ⟨b, o, none⟩) L.length c) := by
            unfold wideA
            simp only [hB]
            rw [if_pos ⟨by omega, by omega, hz, by simpa using h6⟩]
            simp
          rw [hw]
          exact h
    · cases hs
  · cases hs
theorem My.cutTo {L k : List α} (h : My H0 H A c sz (L.map f)) (e : L.take k.length = k) : My H0 H A c sz (k.map f) := by
  rw [← e]
  refine My.prefix (more := (L.drop k.length).map f) ?_
  rw [← List.map_append, List.take_append_drop]
  exact h
theorem sliceA_mx (f : α → List Value) {l : List α} {k1 k2 k3 : IntKind} {i j k : Int} (hs : elemIs P t sz = true) (hz : sz ≠ 0) (h : My H0 H A c sz (l.map f)) (h0 : 0 ≤ i) (h1 : i ≤ j) (h2 : j ≤ k) (h3 : k ≤ l.length) (hl : l.length ≤ 1099511627776) :
    ∃ A' c', sliceA P H t (.slice A l.length c) (some (.int k1 i)) (some (.int k2 j)) (some (.int k3 k)) = some (.slice A' (j - i).toNat c') := by
  have hcap := h.capF hl
  have ho : l.length < OPEN := Nat.lt_of_le_of_lt hl (by decide)
  unfold elemIs at hs
  split at hs
  · rename_i e hu
    split at hs
    · rename_i s hsz
      have hse := Nat.eq_of_beq_eq_true hs
      subst hse
      have hcond : (decide (c < OPEN) || eszB P H e A) = true := by
        rcases h with ⟨_, rfl⟩ | ⟨b, o, cs, opn, rfl, _, _, hB, _⟩
        · rfl
        · simp [eszB, hB, hsz]
      have hk : ∀ x, (l.length : Nat) ≤ x → ((0 : Int) ≤ k ∧ k ≤ (x : Int)) := fun x hx => ⟨by omega, by omega⟩
      unfold sliceA
      simp only [hu, hcond, if_true]
      unfold cutA
      simp only [hsz, Option.bind_eq_bind, Option.bind_some, Option.isSome_some, if_true, bound]
      rw [if_pos (hk _ (by split <;> omega))]
      simp only [Option.bind_some]
      rw [if_pos (by omega)]
      simp only [Option.bind_some]
      rw [if_pos (by omega)]
      simp only [Option.bind_some]
      cases hA : A with
      | none =>
        subst hA
        rcases h with ⟨hn, rfl⟩ | ⟨b, o, cs, opn, e, _⟩
        · have := congrArg List.length hn
          rw [List.length_map, List.length_nil] at this
          refine ⟨none, 0, ?_⟩
          rw [show (j - i).toNat = 0 by omega]
        · cases e
      | some a =>
        refine ⟨some (a.add (i.toNat * s)), k.toNat - i.toNat, ?_⟩
        dsimp only
        rw [if_neg (by rintro (q | ⟨_, q⟩)
                       · exact hz q
                       · omega), if_pos (by omega), show j.toNat - i.toNat = (j - i).toNat by omega]
    · cases hs
  · cases hs
theorem sliceA_my3 (f : α → List Value) {l : List α} {k2 k3 : IntKind} {j : Int} (hs : elemIs P t sz = true) (hz : sz ≠ 0) (h : My H0 H A c sz (l.map f)) (h0 : 0 ≤ j) (h1 : j ≤ l.length) (hl : l.length ≤ 1099511627776) :
    ∃ A', sliceA P H t (.slice A l.length c) none (some (.int k2 j)) (some (.int k3 j)) = some (.slice A' j.toNat j.toNat) ∧ My H0 H A' j.toNat sz ((l.take j.toNat).map f) := by
  have hcap := h.capF hl
  have ho : l.length < OPEN := Nat.lt_of_le_of_lt hl (by decide)
  unfold elemIs at hs
  split at hs
  · rename_i e hu
    split at hs
    · rename_i s hsz
      have hse := Nat.eq_of_beq_eq_true hs
      subst hse
      have hcond : (decide (c < OPEN) || eszB P H e A) = true := by
        rcases h with ⟨_, rfl⟩ | ⟨b, o, cs, opn, rfl, _, _, hB, _⟩
        · rfl
        · simp [eszB, hB, hsz]
      have hk : ∀ x, (l.length : Nat) ≤ x → ((0 : Int) ≤ j ∧ j ≤ (x : Int)) := fun x hx => ⟨by omega, by omega⟩
      have hsl : ∀ A, sliceA P H t (.slice A l.length c) none (some (.int k2 j)) (some (.int k3 j)) = (if (decide (c < OPEN) || eszB P H e A) = true then (match A with | none => some (.slice none 0 0) | some a => some (.slice (some (a.add 0)) j.toNat j.toNat)) else none) := by
        intro A
        unfold sliceA
        simp only [hu]
        split
        · unfold cutA
          simp only [hsz, Option.bind_eq_bind, Option.bind_some, Option.isSome_some, if_true, bound]
          rw [if_pos (hk _ (by split <;> omega))]
          simp only [Option.bind_some]
          rw [if_pos (by omega)]
          simp only [Option.bind_some]
          cases A with
          | none => rfl
          | some a =>
            dsimp only
            rw [if_neg (by rintro (q | ⟨_, q⟩)
                           · exact hz q
                           · omega), if_pos (by omega), Nat.zero_mul, Nat.sub_zero]
        · rfl
      rcases h with ⟨hn, rfl⟩ | ⟨b, o, cs, opn, rfl, h2, h3, hB, h4, h5, h6, h7⟩
      · have hl0 := congrArg List.length hn
        rw [List.length_map, List.length_nil] at hl0
        have e0 : l = [] := List.eq_nil_of_length_eq_zero hl0
        subst e0
        have j0 : j.toNat = 0 := by simp only [List.length_nil] at h1; omega
        cases A with
        | none => exact ⟨none, by rw [hsl, if_pos hcond, j0], by rw [j0]; exact .nil⟩
        | some a => exact ⟨some (a.add 0), by rw [hsl, if_pos hcond], by rw [j0]; exact .nil⟩
      · refine ⟨some ⟨b, o, none⟩, by rw [hsl, if_pos hcond]; dsimp only; rw [add_plain _ rfl]; rfl, ?_⟩
        have hlt : ((l.take j.toNat).map f).length = j.toNat := by rw [List.length_map, List.length_take]; omega
        have hm : j.toNat * s ≤ l.length * s := Nat.mul_le_mul_right _ (by omega)
        rw [List.length_map] at h5 h6 h7
        refine .inr ⟨b, o, cs, opn, rfl, h2, h3, hB, fun r hr => h4 r (by rw [List.map_take] at hr; exact List.mem_of_mem_take hr), ?_, by rw [hlt]; omega, .inr ⟨by omega, by rw [hlt]; exact Nat.le_refl _, by omega⟩⟩
        rw [hlt, List.map_take, flatten_take _ h4, ← h5, List.take_take]
        congr 1
        omega
    · cases hs
  · cases hs
end
end Go.AM
