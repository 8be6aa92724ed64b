-- Words of this seat's own
/- Words of this seat's own, beside the printed ones: a string's bytes appended to a row that is handed on, with what is known of its blocks. -/
import Derived.Test.YtoamlagpnnmnhabSWMore
import Derived.Lib.ConvBytes
namespace Go.Proofs.YtoamlagpnnmnhabW.PrintMore
open Go.RowKit Go.Proofs.YtoamlagpnnmnhabW.PrintWords
namespace Kd
open Go.Proofs.YtoamlagpnnmnhabW.PrintWords.Kd
section
variable {P : Program} {ops : Array Oper} {rest : List Oper} {o : Oper} {a : Act} {Q : Exit → Act → World → Prop}
theorem run_append_str_at (w : World) (base : Nat) (t u ty e : TypeId) (i : TypeInfo) (ht : P.underlying t = some (.slice e)) (hu : P.underlying u = some .string) (hi : P.info? e = some i) (hz : i.zero = some (.int .u8 0))
    (hsize : i.size = 1) (hby : i.bytes = 1)
    (v : Value) (n : Nat) (xs : List Value) (hown : w.ownsRow base e 1 v n xs) (s : ByteArray)
    (h63 : n + s.size ≤ maxLen) (hbytes : n + s.size ≤ 140737488355328) (hbase : base ≤ w.heap.size) :
    ∃ v' w', (Builtin.append_ #[t, u] ty #[v, .string s]).run P w = .ok v' w' ∧ w'.ownsRow base e 1 v' (n + s.size) (xs ++ Lib.strCells s) ∧ w.grownBy w' v.ownBlock ∧
      (v'.ownBlock = v.ownBlock ∨ ∃ b, v'.ownBlock = some b ∧ w.heap.size ≤ b) := by
  obtain ⟨v', w', hr, h2, h3, h4⟩ := Lib.run_append_own_string (P := P) w base t u ty e i ht hu hi hz hsize hby v n xs hown s h63 hbytes hbase
  refine ⟨v', w', hr, h2, h3, ?_⟩
  have hxl : xs.length = n := by simpa using hown.1
  rcases hown.2 with ⟨rfl, rfl⟩ | ⟨g, cap, cur, rfl, hbg, hg, hnc, hcm, hcs, htake⟩
  · have hx : xs = [] := List.eq_nil_of_length_eq_zero hxl
    subst hx
    obtain ⟨v2, w2, hr2, k2, k3, k4⟩ := Lib.run_append_own_string (P := P) w w.heap.size t u ty e i ht hu hi hz hsize hby (.slice none 0 0) 0 [] (World.ownsRow_nil w _ e 1) s h63 hbytes (Nat.le_refl _)
    rw [hr] at hr2
    injection hr2 with e1 e2
    subst e1
    cases hb : v'.ownBlock with
    | none => exact .inl rfl
    | some b => exact .inr ⟨b, rfl, (k2.lt b hb).1⟩
  · have hcs' : cur.size = cap := by simpa using hcs
    by_cases hroom : n + s.size ≤ cap
    · have hr2 := Lib.run_append_room_string (P := P) w t u ty e i ht hu hi hsize g n cap cur hg s hroom (by omega)
      rw [hr] at hr2
      injection hr2 with e1 e2
      subst e1
      exact .inl rfl
    · have holds : ∀ j u, xs[j]? = some u → w.cell? ((⟨g, 0, none⟩ : Addr).add j) = some u := hown.cells (g := g) rfl
      have hsmall : n + s.size ≤ 9223372036854775807 := by simp only [maxLen] at h63; omega
      have hr2 := Lib.run_append_grow_string (P := P) w t u ty e i (.int .u8 0) ht hu hi hz ⟨g, 0, none⟩ n cap xs (by rw [hsize]; simpa using hxl) holds s (by omega) (by omega) (by rw [hby]; exact growslice_fits (by omega) (by omega))
      rw [hr] at hr2
      injection hr2 with e1 e2
      subst e1
      exact .inr ⟨_, rfl, Nat.le_refl _⟩
theorem R_append_str {w0 W : World} (base : Nat) (hgd : o.guard = none) (s x : Operand) (t u e : TypeId)
    (ho : o.op = .call { callee := .builtin .append, args := #[s, x], argTypes := #[t, u] })
    (ht : P.underlying t = some (.slice e)) (hu : P.underlying u = some .string) (hinfo : (P.info? e).map (fun i => (i.zero, i.size, i.bytes)) = some (some (.int .u8 0), 1, 1))
    (v : Value) (xs : List Int) (y : ByteArray) (ok : Nat → Prop) (hs : a.eval s = v) (hx : a.eval x = .string y) (hfresh : ∀ k, W.heap.size ≤ k → ok k)
    (HO : (int .u8).R e W base ok v xs) (HB : Below base w0 W) (hbase : base ≤ W.heap.size) (hl : xs.length + y.size ≤ 140737488355328)
    (h : ∀ v1 w1, (int .u8).R e w1 base ok v1 (xs ++ bytesOf y) → Below base w0 w1 → W.grownBy w1 v.ownBlock → (v1.ownBlock = v.ownBlock ∨ ∃ b, v1.ownBlock = some b ∧ W.heap.size ≤ b) → wpList P ops Q rest (a.put o.dst v1) w1) :
    wpList P ops Q (o :: rest) a W := by
  obtain ⟨i0, hi, hzz⟩ := Option.map_eq_some_iff.1 hinfo
  simp only [Prod.mk.injEq] at hzz
  obtain ⟨hz0, hz1, hz2⟩ := hzz
  have HW : W.ownsRow base e 1 v xs.length (nums .u8 xs) := own_of_R HO
  refine wpList_plain hgd fun K hK => ?_
  obtain ⟨v1, w1, hr, hown, hg, hat⟩ := run_append_str_at (P := P) W base t u o.type e i0 ht hu hi hz0 hz1 hz2 v xs.length (nums .u8 xs) HW y (by simp only [maxLen]; omega) hl hbase
  unfold Oper.wp execOp
  simp only [ho, resolve, invoke, builtin, Sem.run_bind, Sem.run_pure, Result.andThen_ok, List.map_toArray, List.map_cons, List.map_nil, hs, hx, hr]
  have hl2 : (xs ++ bytesOf y).length = xs.length + y.size := by rw [List.length_append, bytesOf_length]
  have hc : nums .u8 (xs ++ bytesOf y) = nums .u8 xs ++ Lib.strCells y := by
    rw [nums_append]
    congr 1
    simp [nums, bytesOf, Lib.strCells]
  refine hK _ _ (h v1 w1 (R_of_own (enc := Value.int .u8) (h1 := fun _ => rfl) ?_ ?_) (HB.grown hg hbase (own_base HW)) hg hat)
  · rw [hl2]
    have e1 : encs (Value.int .u8) (xs ++ bytesOf y) = nums .u8 (xs ++ bytesOf y) := rfl
    rw [e1, hc]
    exact hown
  · intro k hk
    rcases hat with e1 | ⟨b, e1, hb⟩
    · exact HO.1 k (by rw [← e1]; exact hk)
    · rw [e1] at hk
      injection hk with hk
      subst hk
      exact hfresh _ hb
end
theorem C_string_at {P : Program} {w : World} {src dst e : TypeId} {A : Option Addr} {n c : Nat} {xs : List Int} (hs : P.underlying src = some (.slice e)) (he : P.underlying e = some (.int .u8)) (hd : P.underlying dst = some .string)
    (h : (int .u8).C w A n xs) : ∀ m k, k = n → (convert src dst (.slice A k c)).run P (w.drewN m) = .ok (.string (strOfNums xs)) (w.drewN m) := by
  intro m k hk
  subst hk
  exact C_string hs he hd (C_drewN h m)
theorem C_string_as {P : Program} {w : World} {src dst e : TypeId} {A : Option Addr} {n c : Nat} {xs : List Int} (hs : P.underlying src = some (.slice e)) (he : P.underlying e = some (.int .u8)) (hd : P.underlying dst = some .string)
    (h : (int .u8).C w A n xs) : ∀ k, k = n → (convert src dst (.slice A k c)).run P w = .ok (.string (strOfNums xs)) w := by
  intro k hk
  subst hk
  exact C_string hs he hd h
/-- '[]byte(s)' of any string: a new row, marked; read from then on. -/
theorem V_conv {P : Program} {ops : Array Oper} {rest : List Oper} {o : Oper} {a : Act} {Q : Exit → Act → World → Prop} {w0 W : World} (base : Nat) (hgd : o.guard = none) (t0 t e : TypeId) (s : Operand) (ho : o.op = .convert t0 t s)
    (h0 : P.underlying t0 = some .string) (ht : P.underlying t = some (.slice e)) (he : P.underlying e = some (.int .u8)) (sv : ByteArray) (ok : Nat → Prop) (hs : a.eval s = .string sv) (hl : sv.size < 140737488355328) (hfresh : ∀ k, W.heap.size ≤ k → ok k)
    (_HO : (int .u8).V e W base ok (.slice none 0 0) []) (HB : Below base w0 W) (hbase : base ≤ W.heap.size)
    (h : ∀ v1 w1, (int .u8).V e w1 base ok v1 (bytesOf sv) → Below base w0 w1 → W.grownBy w1 (Value.slice none 0 0).ownBlock → (v1.ownBlock = (Value.slice none 0 0).ownBlock ∨ ∃ b, v1.ownBlock = some b ∧ W.heap.size ≤ b) → wpList P ops Q rest (a.put o.dst v1) w1) :
    wpList P ops Q (o :: rest) a W := by
  refine wpList_plain hgd fun K hK => ?_
  have hr := Lib.run_convert_string_bytes (P := P) W t0 t e sv h0 ht he
  have hm := Lib.bytesWorld_at_new W e sv
  have hsz := Lib.bytesWorld_size W e sv
  have hgr : W.grownBy (Lib.bytesWorld W e sv) (Value.slice none 0 0).ownBlock :=
    ⟨rfl, rfl, rfl, by rw [hsz]; omega, fun k hk _ => Lib.bytesWorld_at_old W e sv k hk⟩
  have hlen : (bytesOf sv).length = sv.size := by simp [bytesOf]
  unfold Oper.wp execOp
  simp only [ho, Sem.run_bind, hs]
  simp only [hr, Result.andThen_ok, Sem.run_pure]
  rw [← hlen]
  refine hK _ _ (h _ _ (V_mk (by rw [hlen]; exact grownCap_ge _ _ _ _) (fun W' hW => ?_)) (HB.grown hgr hbase (fun k hk => by simp [Value.ownBlock] at hk)) hgr (.inr ⟨W.heap.size, rfl, Nat.le_refl _⟩))
  have hg' : W'.heap[W.heap.size]? = some (.cells (Lib.bytesCells W e sv) e ((Lib.bytesCells W e sv).size, (Lib.bytesCells W e sv).size + 1)) := by
    rw [hW W.heap.size (hfresh _ (Nat.le_refl _)) (by rw [hsz]; omega)]
    exact hm
  refine C_of_reads (enc := Value.int .u8) (h1 := fun _ => rfl) (d := (0 : Int)) ?_
  refine ⟨rfl, by rw [hlen]; omega, fun _ => ⟨_, rfl, fun j hj => ?_⟩⟩
  have hb : (⟨W.heap.size, 0, none⟩ : Addr).add j = ⟨W.heap.size, j, none⟩ := by unfold Addr.add; split <;> simp_all
  rw [hb]
  have hj' : j < sv.size := by omega
  have hjd : j < sv.data.size := hj'
  simp [World.cell?, hg', Lib.bytesCells, Array.getElem?_append, bytesOf]
  rw [if_pos hj', Array.getElem?_eq_getElem hjd]
  rfl
theorem own_len (A : Option Addr) (n c : Nat) : (Value.slice A n c).ownBlock = A.map (·.block) := by cases A <;> rfl
end Kd
end Go.Proofs.YtoamlagpnnmnhabW.PrintMore
