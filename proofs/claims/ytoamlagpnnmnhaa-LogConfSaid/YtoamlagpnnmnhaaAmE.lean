/- Part of a machine of its own for this claim: the program's code over memory without draws. -/
import Derived.Test.YtoamlagpnnmnhaaAmC
import Derived.Test.YtoamlagpnnmnhaaAmB
import Derived.SizedLaws
import Derived.Deep.Slices
import Derived.ChangeArms
set_option linter.unusedVariables false
set_option linter.unusedSimpArgs false
/- Rules for what changes memory, told apart from the row that they stand in. -/
namespace Go.AM
open Go
variable {P : Program} {E : TypeId → Bool}

section
variable {H : Heap}
theorem mem_alloc (H : Heap) {e : TypeId} {zc : List Value} (hz : ZeroIs P e zc) : ∃ b H1, (∀ (E : TypeId → Bool) (dst : Option Tmp) (ty : TypeId) (pos : String) (af : Array Edge) (g : Option (Nat × Bool)) (R : Regs), evOp P E R H ⟨dst, .alloc e, ty, pos, af, g⟩ = some (.pointer (some ⟨b, 0, none⟩), H1, [])) ∧
    b = H.next ∧ H1.next = b + 1 ∧ H1.blk b = some ⟨zc, zc.length, false, false⟩ ∧ ∀ c, c ≠ b → H1.blk c = H.blk c := by
  obtain ⟨h1, h2, h3⟩ := make_facts H ⟨zc, zc.length, false, false⟩
  exact ⟨_, _, fun _ _ _ _ _ _ _ => ev_alloc hz, rfl, h1, h2, h3⟩
theorem mem_box (H : Heap) {v : Value} {cs : List Value} (hc : v.cells.toList = cs) (h1 : cs.all Value.oneCell' = true) : ∃ b H1, (∀ (E : TypeId → Bool) (dst : Option Tmp) (t : TypeId) (x : Operand) (ty : TypeId) (pos : String) (af : Array Edge) (g : Option (Nat × Bool)) (R : Regs), R.eval x = some v → evOp P E R H ⟨dst, .box t x, ty, pos, af, g⟩ = some (.pointer (some ⟨b, 0, none⟩), H1, [])) ∧
    b = H.next ∧ H1.next = b + 1 ∧ H1.blk b = some ⟨cs, cs.length, false, false⟩ ∧ ∀ c, c ≠ b → H1.blk c = H.blk c := by
  obtain ⟨p1, p2, p3⟩ := make_facts H ⟨cs, cs.length, false, false⟩
  exact ⟨_, _, fun _ _ _ _ _ _ _ _ _ hx => ev_box hx hc h1, rfl, p1, p2, p3⟩
theorem mem_store {t : TypeId} {b o sz : Nat} {opn : Bool} {cs cs' vs : List Value} {v : Value} (m : Nat) (hv : v.cells.toList = vs) (hk : vs.length = m) (hs : sizeIs P t m = true)
    (hB : H.blk b = some ⟨cs, sz, false, opn⟩) (hle : Nat.ble (o + vs.length) cs.length = true) (h1 : vs.all Value.oneCell' = true) (hc : cs.take o ++ vs ++ cs.drop (o + vs.length) = cs') :
    ∃ H1, (∀ (E : TypeId → Bool) (dst : Option Tmp) (a x : Operand) (ty : TypeId) (pos : String) (af : Array Edge) (g : Option (Nat × Bool)) (R : Regs), R.eval a = some (.pointer (some ⟨b, o, none⟩)) → R.eval x = some v → evOp P E R H ⟨dst, .store t a x, ty, pos, af, g⟩ = some (undef, H1, [b])) ∧
      H1.next = H.next ∧ H1.blk b = some ⟨cs', sz, false, opn⟩ ∧ ∀ c, c ≠ b → H1.blk c = H.blk c := by
  obtain ⟨H1, p1, p2, p3, p4⟩ := put_facts hB hle h1 hc
  exact ⟨H1, fun _ _ _ _ _ _ _ _ _ ha hx => ev_store ha hx hv hk hs p1, p2, p3, p4⟩
theorem mem_build (H : Heap) {t e sz bytes m : Nat} {xs : List Value} {rows : List (List Value)} (hm : xs.length = m) (ht : ElemOk P t e sz bytes) (hz : sz ≠ 0) (hsm : m * sz ≤ 16777216) (hzf : ∃ i z, P.info? e = some i ∧ i.zero = some z ∧ z.cells.toList.all flat = true)
    (hx : xs.map (fun x => x.cells.toList) = rows) (hl : ∀ r ∈ rows, r.length = sz) (h1 : rows.flatten.all Value.oneCell' = true) :
    ∃ b H1, (∀ (E : TypeId → Bool) (dst : Option Tmp) (ps : Array (Nat × Operand)) (ty : TypeId) (pos : String) (af : Array Edge) (g : Option (Nat × Bool)) (R : Regs), (ps.toList.mapM fun (p : Nat × Operand) => (R.eval p.2).map fun v => (p.1, v)) = some ((xs.zipIdx 0).map fun p => (p.2, p.1)) → evOp P E R H ⟨dst, .buildSlice t m ps, ty, pos, af, g⟩ = some (.slice (some ⟨b, 0, none⟩) m m, H1, [])) ∧
      b = H.next ∧ H1.next = b + 1 ∧ RowIn H1 b 0 sz rows ∧ ∀ c, c ≠ b → H1.blk c = H.blk c := by
  subst hm
  obtain ⟨p1, p2, p3⟩ := make_facts H ⟨rows.flatten, sz, false, false⟩
  have hb := buildSl_many (H := H) ht hz hsm hzf hx hl h1
  refine ⟨_, _, fun _ _ _ _ _ _ _ _ hv => ?_, rfl, p1, ⟨by rw [p1]; omega, _, p2, rfl, hl, fun j v hj => by simpa using hj⟩, p3⟩
  simp only [evOp, hv, Option.bind_some, hb]
theorem mem_append_new {H : Heap} {t e sz bytes m mx : Nat} {A X : Option Addr} {c cx : Nat} {old new : List (List Value)} (hm : old.length = m) (hmx : new.length = mx) (ht : ElemOk P t e sz bytes) (hz : sz ≠ 0) (ho : Row H A c sz old) (hX : Row H X cx sz new) (hn0 : new.length ≠ 0) (hc : c < OPEN) (hg : c < old.length + new.length) (hA : A = none → c = 0)
    (hol : ∀ q ∈ old, q.length = sz) (hnl : ∀ q ∈ new, q.length = sz) (h1 : new.flatten.all Value.oneCell' = true) (hb : (old.length + new.length) * bytes ≤ 1099511627776) (hb2 : old.length + new.length ≤ 1099511627776) :
    ∃ b H1, (∀ (E : TypeId → Bool) (dst : Option Tmp) (t2 : TypeId) (s x : Operand) (ty : TypeId) (pos : String) (af : Array Edge) (g : Option (Nat × Bool)) (R : Regs), R.eval s = some (.slice A m c) → R.eval x = some (.slice X mx cx) → isRow P (some t2) = true → evOp P E R H ⟨dst, .call { callee := .builtin .append, args := #[s, x], argTypes := #[t, t2] }, ty, pos, af, g⟩ = some (.slice (some ⟨b, 0, none⟩) (m + mx) OPEN, H1, [])) ∧
      b = H.next ∧ H1.next = b + 1 ∧ Own H1 b sz (old ++ new) ∧ ∀ c, c ≠ b → H1.blk c = H.blk c := by
  subst hm hmx
  obtain ⟨p1, p2, p3⟩ := make_facts H ⟨(old ++ new).flatten, sz, false, true⟩
  have ha := appendA_new ht hz ho hX hn0 hc hg hA h1 hb hb2
  exact ⟨_, _, fun _ _ _ _ _ _ _ _ _ _ hs hx hr => ev_append hs hx ht.1 hr ha, rfl, p1, ⟨by rw [p1]; omega, p2, fun q hq => (List.mem_append.1 hq).elim (hol q) (hnl q)⟩, p3⟩
theorem mem_append_own {H : Heap} {t e sz bytes m mx b0 : Nat} {X : Option Addr} {cx : Nat} {old new : List (List Value)} (hm : old.length = m) (hmx : new.length = mx) (ht : ElemOk P t e sz bytes) (hz : sz ≠ 0) (ho : Own H b0 sz old) (hX : Row H X cx sz new) (hn0 : new.length ≠ 0)
    (hnl : ∀ q ∈ new, q.length = sz) (h1 : new.flatten.all Value.oneCell' = true) (hb : (old.length + new.length) * bytes ≤ 1099511627776) (hb2 : old.length + new.length ≤ 1099511627776) :
    ∃ b H1, (∀ (E : TypeId → Bool) (dst : Option Tmp) (t2 : TypeId) (s x : Operand) (ty : TypeId) (pos : String) (af : Array Edge) (g : Option (Nat × Bool)) (R : Regs), R.eval s = some (.slice (some ⟨b0, 0, none⟩) m OPEN) → R.eval x = some (.slice X mx cx) → isRow P (some t2) = true → evOp P E R H ⟨dst, .call { callee := .builtin .append, args := #[s, x], argTypes := #[t, t2] }, ty, pos, af, g⟩ = some (.slice (some ⟨b, 0, none⟩) (m + mx) OPEN, H1, [b0])) ∧
      b = H.next ∧ H1.next = b + 1 ∧ Own H1 b sz (old ++ new) ∧ ∀ c, c ≠ b → c ≠ b0 → H1.blk c = H.blk c := by
  subst hm hmx
  have ha := appendA_own ht hz ho hX hn0 h1 (flatten_len new hnl) hb hb2
  exact ⟨_, _, fun _ _ _ _ _ _ _ _ _ _ hs hx hr => ev_append hs hx ht.1 hr ha, rfl, rfl, ⟨by simp [Heap.make, Heap.set], by simp [Heap.make, Heap.set], fun q hq => (List.mem_append.1 hq).elim (ho.len q) (hnl q)⟩, fun c hc hc0 => by simp [Heap.make, Heap.set, hc, hc0]⟩
/-- append of nothing. -/
theorem ev_append0 {dst : Option Tmp} {t t2 e sz bytes : Nat} {s x : Operand} {ty : TypeId} {pos : String} {af : Array Edge} {g : Option (Nat × Bool)} {R : Regs} {A X : Option Addr} {m c cx : Nat} (hs : R.eval s = some (.slice A m c)) (hx : R.eval x = some (.slice X 0 cx)) (ht : ElemOk P t e sz bytes) (hr : isRow P (some t2) = true) :
    evOp P E R H ⟨dst, .call { callee := .builtin .append, args := #[s, x], argTypes := #[t, t2] }, ty, pos, af, g⟩ = some (.slice A m c, H, []) := by
  obtain ⟨hu, i, q1, _⟩ := ht
  refine ev_append hs hx hu hr ?_
  simp [appendA, q1, lenA]
end
theorem RowIn.row {H : Heap} {b o sz c : Nat} {rows : List (List Value)} (h : RowIn H b o sz rows) : Row H (some ⟨b, o, none⟩) c sz rows := .inr ⟨b, o, rfl, h⟩
theorem Own.in_ {H : Heap} {b sz : Nat} {rows : List (List Value)} (h : Own H b sz rows) : RowIn H b 0 sz rows := ⟨h.lt, _, h.blk, rfl, h.len, fun j v hj => by simpa using hj⟩
/-! Strings. -/
section
variable {H : Heap} {dst : Option Tmp} {ty : TypeId} {pos : String} {af : Array Edge} {g : Option (Nat × Bool)} {R : Regs}
theorem ev_lenStr {t : TypeId} {x : Operand} {s : ByteArray} (hx : R.eval x = some (.string s)) (hu : P.underlying t = some .string) : evOp P E R H ⟨dst, .call { callee := .builtin .len, args := #[x], argTypes := #[t] }, ty, pos, af, g⟩ = some (.int .i64 (s.size : Int), H, []) := by
  simp [evOp, evals, hx, builtinA, lenB, hu, pureV]
theorem ev_str {op : BinOp} {t t2 : TypeId} {x y : Operand} {a b : ByteArray} {v : Value} (hx : R.eval x = some (.string a)) (hy : R.eval y = some (.string b)) (h : strBin op a b = some v) : evOp P E R H ⟨dst, .binOp op t x y t2, ty, pos, af, g⟩ = some (v, H, []) := by
  simp only [evOp, hx, hy, Option.bind_some, bin, h]; rfl
theorem ev_slStr {t : TypeId} {x : Operand} {lo hi : Option Operand} {s : ByteArray} {l h : Option Value} {a b : Nat} (hu : P.underlying t = some .string) (hx : R.eval x = some (.string s)) (h1 : optEval R lo = some l) (h2 : optEval R hi = some h) (hb : bound h s.size s.size = some b) (ha : bound l b 0 = some a) :
    evOp P E R H ⟨dst, .slice t x lo hi none, ty, pos, af, g⟩ = some (.string (s.extract a b), H, []) := by
  have h3 : optEval R none = some none := rfl
  simp only [evOp, hx, h1, h2, h3, Option.bind_some, sliceA, hu, Option.isSome_none, Bool.false_eq_true, if_false, hb, ha, Option.bind_eq_bind]
  rfl
theorem ev_ixStr {t : TypeId} {x i : Operand} {s : ByteArray} {k : IntKind} {n : Nat} {b : UInt8} (hu : P.underlying t = some .string) (hx : R.eval x = some (.string s)) (hi : R.eval i = some (.int k (n : Int))) (hb : s[n]? = some b) :
    evOp P E R H ⟨dst, .index t x i, ty, pos, af, g⟩ = some (.int .u8 (b.toNat : Int), H, []) := by
  simp only [evOp, hx, hi, Option.bind_some, indexA, hu]
  rw [if_pos (by omega), Int.toNat_natCast, hb]
  rfl
theorem ev_convInt {s d : TypeId} {x : Operand} {k k' : IntKind} {n : Int} {D : TypeDesc} (hs : P.underlying s = some D) (hd : P.underlying d = some (.int k)) (hx : R.eval x = some (.int k' n)) : evOp P E R H ⟨dst, .convert s d x, ty, pos, af, g⟩ = some (.int k (k.wrap n), H, []) := by
  simp [evOp, hx, convA, hs, hd]
theorem ev_agg {op : BinOp} {t t2 : TypeId} {x y : Operand} {xs ys : Array Value} {c : Bool} (hx : R.eval x = some (.agg xs)) (hy : R.eval y = some (.agg ys)) (hE : (E t && fitAgg P t xs.toList && xs.toList.all flat && ys.toList.all flat) = true) (hq : bin.eqCells xs.toList ys.toList = some c) (ho : op = .eql) :
    evOp P E R H ⟨dst, .binOp op t x y t2, ty, pos, af, g⟩ = some (.bool c, H, []) := by
  subst ho
  simp only [evOp, hx, hy, Option.bind_some, bin, hE, if_true, hq, Option.map_some]
  rfl
theorem ev_aggNe {op : BinOp} {t t2 : TypeId} {x y : Operand} {xs ys : Array Value} {c : Bool} (hx : R.eval x = some (.agg xs)) (hy : R.eval y = some (.agg ys)) (hE : (E t && fitAgg P t xs.toList && xs.toList.all flat && ys.toList.all flat) = true) (hq : bin.eqCells xs.toList ys.toList = some c) (ho : op = .neq) :
    evOp P E R H ⟨dst, .binOp op t x y t2, ty, pos, af, g⟩ = some (.bool !c, H, []) := by
  subst ho
  simp only [evOp, hx, hy, Option.bind_some, bin, hE, if_true, hq, Option.map_some]
  rfl
theorem ev_field1 {t : TypeId} {x : Operand} {f off : Nat} {cs : Array Value} {v : Value} (hf : (match P.underlying t with | some (.struct fs) => (match fs[f]? with | some fd => Nat.beq fd.offset off && (match P.underlying fd.type, size? P fd.type with | some d, some _ => !isAggB d | _, _ => false) | none => false) | _ => false) = true) (hx : R.eval x = some (.agg cs)) (hv : cs[off]? = some v) :
    evOp P E R H ⟨dst, .field t x f, ty, pos, af, g⟩ = some (v, H, []) := by
  simp only [evOp, hx, Option.bind_some, fieldA]
  split at hf
  · rename_i fs hu
    split at hf
    · rename_i fd hfd
      simp only [Bool.and_eq_true] at hf
      obtain ⟨h1, h2⟩ := hf
      have h1 := Nat.eq_of_beq_eq_true h1
      split at h2
      · rename_i d s hd hs
        simp only [Bool.not_eq_true'] at h2
        simp only [hu, hfd, hd, hs, h2, Bool.false_eq_true, if_false, h1, hv]
        rfl
      · cases h2
    · cases hf
  · cases hf
end
/-! In a row that draws. -/
section
variable {ops : Array Oper} {n : Nat} {r : Slots} {H H' : Heap} {K : Regs → Heap → Prop} {o : Oper} {v : Value} {W : List Nat} {d : Tmp} {keep : Nat → Prop} {os : List Oper} {ms : List (Bool × Bool)}
theorem sm_op0 (he : evOp P E (RL n r) H o = some (v, H', W)) (hd : o.dst = none) (hw : wants ops (RL n r) o = some true) (k : awLD P E ops keep (zipM os ms) (RL n r) H' K) : awLD P E ops keep (zipM (o :: os) ((false, false) :: ms)) (RL n r) H K :=
  ⟨v, H', ⟨by rw [hd]; rfl, .inr ⟨hw, .op he⟩⟩, (fun h => nomatch h), (fun h => nomatch h), by rw [hd]; exact k⟩
theorem sm_act (he : evOp P E (RL n r) H o = some (v, H', W)) (hd : o.dst = some d) (hn : Nat.blt d n = true) (hw : wants ops (RL n r) o = some true) (hle : ∀ b, keep b → H'.blk b = H.blk b) (k : awLD P E ops keep (zipM os ms) (RL n (.cons d v r)) H' K) : awLD P E ops keep (zipM (o :: os) ((false, true) :: ms)) (RL n r) H K :=
  ⟨v, H', ⟨dst_some hd hn, .inr ⟨hw, .op he⟩⟩, (fun h => nomatch h), (fun _ => hle), by rw [put_some hd]; exact k⟩
theorem sm_act0 (he : evOp P E (RL n r) H o = some (v, H', W)) (hd : o.dst = none) (hw : wants ops (RL n r) o = some true) (hle : ∀ b, keep b → H'.blk b = H.blk b) (k : awLD P E ops keep (zipM os ms) (RL n r) H' K) : awLD P E ops keep (zipM (o :: os) ((false, true) :: ms)) (RL n r) H K :=
  ⟨v, H', ⟨by rw [hd]; rfl, .inr ⟨hw, .op he⟩⟩, (fun h => nomatch h), (fun _ => hle), by rw [hd]; exact k⟩
end
theorem ext_rfl_keep {H : Heap} {n : Nat} {H' : Heap} (h : Ext H H') (hn : n ≤ H.next) : ∀ b, b < n → H'.blk b = H.blk b := fun b hb => h.2 b (by omega)
end Go.AM

/- Small helps for walks. -/
namespace Go.AM
open Go
variable {P : Program} {E : TypeId → Bool}

theorem elemInfo {e sz bt : Nat} (h : ((P.info? e).map fun i => (i.size, i.bytes, i.zero.map fun z => z.cells.size)) = some (sz, bt, some sz)) : ∃ i, P.info? e = some i ∧ i.size = sz ∧ i.bytes = bt ∧ (i.zero.map fun z => z.cells.size) = some sz := by
  obtain ⟨i, h1, h2⟩ := Option.map_eq_some_iff.1 h
  simp only [Prod.mk.injEq] at h2
  exact ⟨i, h1, h2.1, h2.2.1, h2.2.2⟩
theorem zeroFlat {e : Nat} (h : (((P.info? e).bind (·.zero)).map fun z => z.cells.toList.all flat) = some true) : ∃ i z, P.info? e = some i ∧ i.zero = some z ∧ z.cells.toList.all flat = true := by
  obtain ⟨z, h1, h2⟩ := Option.map_eq_some_iff.1 h
  obtain ⟨i, h3, h4⟩ := Option.bind_eq_some_iff.1 h1
  exact ⟨i, z, h3, h4, h2⟩
def fieldFlat (P : Program) (t f off : Nat) : Bool :=
  match P.underlying t with
  | some (.struct fs) => (match fs[f]? with | some fd => Nat.beq fd.offset off && (match P.underlying fd.type, size? P fd.type with | some d, some _ => !isAggB d | _, _ => false) | none => false)
  | _ => false
theorem ev_fieldF {H : Heap} {dst : Option Tmp} {ty : TypeId} {pos : String} {af : Array Edge} {g : Option (Nat × Bool)} {R : Regs} {t : TypeId} {x : Operand} {f off : Nat} {cs : Array Value} {v : Value} (hf : fieldFlat P t f off = true) (hx : R.eval x = some (.agg cs)) (hv : cs[off]? = some v) :
    evOp P E R H ⟨dst, .field t x f, ty, pos, af, g⟩ = some (v, H, []) := ev_field1 hf hx hv
theorem getMap {α β : Type} (cells : α → β) {l : List α} {j : Nat} {e : α} (h : l[j]? = some e) : (l.map cells)[j]? = some (cells e) := by rw [List.getElem?_map, h]; rfl
theorem lvar_part {H : Heap} {t : TypeId} {b o n sz : Nat} {rd opn : Bool} {cs l : List Value} (hu : manyB P t n = true) (hB : H.blk b = some ⟨cs, sz, rd, opn⟩) (h : (cs.drop o).take n = l) (hl : l.length = n) (hn : n ≠ 0) : lvar P H t ⟨b, o, none⟩ = some (.agg l.toArray) := by
  refine lvar_many hu hB hl (fun j v hj => ?_) hn
  have hj2 : j < n := by rw [← hl]; exact (List.getElem?_eq_some_iff.1 hj).1
  rw [← h, List.getElem?_take, if_pos hj2, List.getElem?_drop] at hj
  exact hj
theorem allLen {rows : List (List Value)} {sz : Nat} (h : (rows.all fun r => Nat.beq r.length sz) = true) : ∀ r ∈ rows, r.length = sz := fun r hr => Nat.eq_of_beq_eq_true (List.all_eq_true.1 h r hr)
theorem spec_go4 (hE : EqOk P E) {f : FuncId} {fn : Func} {c : Code} {a b d x : Value} {H : Heap} {Q : Value → Heap → Prop} (n : Nat) (hf : P.funcs[f]? = some fn) (hb : fn.body = some c) (hn : Nat.beq fn.ntmps n = true) (h1 : Nat.ble 4 n = true)
    (h : aw P E c (RL n (.cons 0 a (.cons 1 b (.cons 2 d (.cons 3 x .nil))))) H (Done P fn Q)) : ∃ v H', Spec P f [a, b, d, x] H v H' ∧ Q v H' := spec_go hE hf hb (by have := Nat.eq_of_beq_eq_true hn; have := Nat.le_of_ble_eq_true h1; simp; omega) rfl h
theorem spec_go5 (hE : EqOk P E) {f : FuncId} {fn : Func} {c : Code} {a b d x y : Value} {H : Heap} {Q : Value → Heap → Prop} (n : Nat) (hf : P.funcs[f]? = some fn) (hb : fn.body = some c) (hn : Nat.beq fn.ntmps n = true) (h1 : Nat.ble 5 n = true)
    (h : aw P E c (RL n (.cons 0 a (.cons 1 b (.cons 2 d (.cons 3 x (.cons 4 y .nil)))))) H (Done P fn Q)) : ∃ v H', Spec P f [a, b, d, x, y] H v H' ∧ Q v H' := spec_go hE hf hb (by have := Nat.eq_of_beq_eq_true hn; have := Nat.le_of_ble_eq_true h1; simp; omega) rfl h
theorem drop_at {α : Type} {l : List α} {i : Nat} {e : α} (h : l[i]? = some e) : l.drop i = e :: l.drop (i + 1) := by
  have hlt := (List.getElem?_eq_some_iff.1 h).1
  rw [List.drop_eq_getElem_cons hlt]
  congr 1
  exact (List.getElem?_eq_some_iff.1 h).2
/-! What a loop gathers. -/
def accV (b n : Nat) : Value := if n = 0 then .slice none 0 0 else .slice (some ⟨b, 0, none⟩) n OPEN
def Acc (H : Heap) (b sz : Nat) (rows : List (List Value)) : Prop := rows = [] ∨ Own H b sz rows
theorem Acc.nil (H : Heap) (b sz : Nat) : Acc H b sz [] := .inl rfl
theorem Acc.next {H H' : Heap} {b sz : Nat} {rows : List (List Value)} (h : Acc H b sz rows) (hn : H.next ≤ H'.next) (hb : H'.blk b = H.blk b) : Acc H' b sz rows := h.imp id fun h => h.same hn hb
theorem Acc.val {H : Heap} {b sz : Nat} {rows : List (List Value)} (h : Acc H b sz rows) (hl : rows.length ≤ 1099511627776) : ∃ A c, accV b rows.length = .slice A rows.length c ∧ Row H A c sz rows ∧ rows.length ≤ c ∧ (A = none → c = 0) := by
  by_cases h0 : rows.length = 0
  · have := List.eq_nil_of_length_eq_zero h0
    subst this
    exact ⟨none, 0, rfl, .nil, Nat.le_refl _, fun _ => rfl⟩
  · refine ⟨some ⟨b, 0, none⟩, OPEN, by unfold accV; rw [if_neg h0], ?_, by unfold OPEN; omega, fun x => by cases x⟩
    rcases h with rfl | h
    · exact absurd rfl h0
    · exact h.row
theorem mem_append_acc {H : Heap} {t e sz bytes mx b0 : Nat} {X : Option Addr} {cx : Nat} {old new : List (List Value)} (hmx : new.length = mx) (ht : ElemOk P t e sz bytes) (hz : sz ≠ 0) (ho : Acc H b0 sz old) (hX : Row H X cx sz new) (hn0 : new.length ≠ 0)
    (hnl : ∀ q ∈ new, q.length = sz) (h1 : new.flatten.all Value.oneCell' = true) (hb : (old.length + new.length) * bytes ≤ 1099511627776) (hb2 : old.length + new.length ≤ 1099511627776) :
    ∃ b H1 W, (∀ (E : TypeId → Bool) (dst : Option Tmp) (t2 : TypeId) (s x : Operand) (ty : TypeId) (pos : String) (af : Array Edge) (g : Option (Nat × Bool)) (R : Regs), R.eval s = some (accV b0 old.length) → R.eval x = some (.slice X mx cx) → isRow P (some t2) = true → evOp P E R H ⟨dst, .call { callee := .builtin .append, args := #[s, x], argTypes := #[t, t2] }, ty, pos, af, g⟩ = some (accV b (old ++ new).length, H1, W)) ∧
      b = H.next ∧ H1.next = b + 1 ∧ Acc H1 b sz (old ++ new) ∧ ∀ c, c ≠ b → c ≠ b0 → H1.blk c = H.blk c := by
  have hlen : (old ++ new).length ≠ 0 := by rw [List.length_append]; omega
  rcases ho with rfl | ho
  · obtain ⟨b, H1, h1, h2, h3, h4, h5⟩ := mem_append_new (H := H) (A := none) (c := 0) (old := []) (m := 0) rfl hmx ht hz .nil hX hn0 (by decide) (by simp; omega) (fun _ => rfl) (by simp) hnl h1 hb hb2
    refine ⟨b, H1, [], fun E dst t2 s x ty pos af g R hs hx hr => ?_, h2, h3, .inr h4, fun c hc _ => h5 c hc⟩
    · rw [h1 E dst t2 s x ty pos af g R hs hx hr]
      unfold accV
      rw [if_neg hlen]
      simp [hmx]
  · by_cases h0 : old.length = 0
    · have := List.eq_nil_of_length_eq_zero h0
      subst this
      obtain ⟨b, H1, h1, h2, h3, h4, h5⟩ := mem_append_new (H := H) (A := none) (c := 0) (old := []) (m := 0) rfl hmx ht hz .nil hX hn0 (by decide) (by simp; omega) (fun _ => rfl) (by simp) hnl h1 hb hb2
      refine ⟨b, H1, [], fun E dst t2 s x ty pos af g R hs hx hr => ?_, h2, h3, .inr h4, fun c hc _ => h5 c hc⟩
      · rw [h1 E dst t2 s x ty pos af g R hs hx hr]
        unfold accV
        rw [if_neg hlen]
        simp [hmx]
    · obtain ⟨b, H1, h1, h2, h3, h4, h5⟩ := mem_append_own (H := H) (m := old.length) rfl hmx ht hz ho hX hn0 hnl h1 hb hb2
      refine ⟨b, H1, [b0], fun E dst t2 s x ty pos af g R hs hx hr => ?_, h2, h3, .inr h4, h5⟩
      · rw [h1 E dst t2 s x ty pos af g R (by rw [hs]; unfold accV; rw [if_neg h0]) hx hr]
        unfold accV
        rw [if_neg hlen]
        simp [hmx]
end Go.AM

/- Arrays of numbers in memory, told by a function. -/
namespace Go.AM
open Go
variable {P : Program} {E : TypeId → Bool}
def arrIs (P : Program) (t n : Nat) : Bool :=
  match P.underlying t with
  | some (.array m e) => Nat.beq m n && (match size? P e with | some s => Nat.beq s 1 | none => false)
  | _ => false
theorem ev_indexArr {H : Heap} {dst : Option Tmp} {t : TypeId} {x i : Operand} {ty : TypeId} {pos : String} {af : Array Edge} {g : Option (Nat × Bool)} {R : Regs} {b o n o' : Nat} {k : IntKind} {j : Int} (hx : R.eval x = some (.pointer (some ⟨b, o, none⟩))) (hi : R.eval i = some (.int k j)) (h0 : 0 ≤ j) (h1 : j < (n : Int))
    (hs : arrIs P t n = true) (ho : o + j.toNat = o') : evOp P E R H ⟨dst, .indexAddr t x i, ty, pos, af, g⟩ = some (.pointer (some ⟨b, o', none⟩), H, []) := by
  unfold arrIs at hs
  simp only [evOp, hx, hi, Option.bind_some, indexAd]
  split at hs
  · rename_i m e hu
    rw [Bool.and_eq_true] at hs
    obtain ⟨hm, hs⟩ := hs
    have hm := Nat.eq_of_beq_eq_true hm
    subst hm
    split at hs
    · rename_i s hsz
      rw [hu]
      simp only [hsz, h0, h1, and_self, if_true, pureV, Option.map_some]
      rw [add_plain _ rfl, Nat.eq_of_beq_eq_true hs, Nat.mul_one]
      simp only [ho]
    · cases hs
  · cases hs
def upd (g : Nat → Int) (k : Nat) (x : Int) : Nat → Int := fun j => if j = k then x else g j
theorem upd_self (g : Nat → Int) (k : Nat) (x : Int) : upd g k x k = x := if_pos rfl
theorem upd_ne (g : Nat → Int) {j k : Nat} (x : Int) (h : j ≠ k) : upd g k x j = g j := if_neg h
def Cells (n : Nat) (g : Nat → Int) : List Value := (List.range n).map fun k => .int .i64 (g k)
theorem cells_len (n : Nat) (g : Nat → Int) : (Cells n g).length = n := by simp [Cells]
theorem cells_get {n k : Nat} {g : Nat → Int} (h : k < n) : (Cells n g)[k]? = some (.int .i64 (g k)) := by simp [Cells, h]
theorem cells_set {n k : Nat} {g : Nat → Int} {x : Int} (h : k < n) : (Cells n g).take k ++ [Value.int .i64 x] ++ (Cells n g).drop (k + 1) = Cells n (upd g k x) := by
  apply List.ext_getElem?
  intro i
  rcases Nat.lt_trichotomy i k with hi | hi | hi
  · rw [List.append_assoc, List.getElem?_append_left (by simp [cells_len]; omega), List.getElem?_take, if_pos hi, cells_get (by omega), cells_get (by omega), upd_ne _ _ (by omega)]
  · subst hi
    rw [List.getElem?_append_left (by simp [cells_len]; omega), List.getElem?_append_right (by simp [cells_len]; omega), cells_get h, upd_self]
    simp [cells_len, Nat.min_eq_left (Nat.le_of_lt h)]
  · rw [List.getElem?_append_right (by simp [cells_len]; omega), List.getElem?_drop]
    have : k + 1 + (i - (List.take k (Cells n g) ++ [Value.int .i64 x]).length) = i := by simp [cells_len]; omega
    rw [this]
    rcases Nat.lt_or_ge i n with hn | hn
    · rw [cells_get hn, cells_get hn, upd_ne _ _ (by omega)]
    · rw [List.getElem?_eq_none (by rw [cells_len]; exact hn), List.getElem?_eq_none (by rw [cells_len]; exact hn)]
theorem lvar_cells {H : Heap} {t : TypeId} {b k n sz : Nat} {rd opn : Bool} {g : Nat → Int} (hu : oneB P t = true) (hB : H.blk b = some ⟨Cells n g, sz, rd, opn⟩) (hk : k < n) : lvar P H t ⟨b, k, none⟩ = some (.int .i64 (g k)) := lvar_one hu hB (cells_get hk)
theorem mem_storeC {H : Heap} {t : TypeId} {b k n sz : Nat} {opn : Bool} {g : Nat → Int} {x : Int} (hs : sizeIs P t 1 = true) (hB : H.blk b = some ⟨Cells n g, sz, false, opn⟩) (hk : k < n) :
    ∃ H1, (∀ (E : TypeId → Bool) (dst : Option Tmp) (a y : Operand) (ty : TypeId) (pos : String) (af : Array Edge) (gd : Option (Nat × Bool)) (R : Regs), R.eval a = some (.pointer (some ⟨b, k, none⟩)) → R.eval y = some (.int .i64 x) → evOp P E R H ⟨dst, .store t a y, ty, pos, af, gd⟩ = some (undef, H1, [b])) ∧
      H1.next = H.next ∧ H1.blk b = some ⟨Cells n (upd g k x), sz, false, opn⟩ ∧ ∀ c, c ≠ b → H1.blk c = H.blk c :=
  mem_store (v := .int .i64 x) (vs := [.int .i64 x]) 1 rfl rfl hs hB (by rw [cells_len]; exact Nat.ble_eq_true_of_le hk) rfl (cells_set hk)
theorem cells_zero8 : Cells 8 (fun _ => 0) = [.int .i64 0, .int .i64 0, .int .i64 0, .int .i64 0, .int .i64 0, .int .i64 0, .int .i64 0, .int .i64 0] := rfl
theorem cells_zero16 : Cells 16 (fun _ => 0) = [.int .i64 0, .int .i64 0, .int .i64 0, .int .i64 0, .int .i64 0, .int .i64 0, .int .i64 0, .int .i64 0, .int .i64 0, .int .i64 0, .int .i64 0, .int .i64 0, .int .i64 0, .int .i64 0, .int .i64 0, .int .i64 0] := rfl
theorem Ext.ext1 {p : Nat} {H H1 H2 : Heap} (h : Ext H H1) (k : Ext1 p H1 H2) (hp : H.next ≤ p) : Ext H H2 := ⟨Nat.le_trans h.1 k.1, fun b hb => (k.2 b (Nat.lt_of_lt_of_le hb h.1) (by omega)).trans (h.2 b hb)⟩
theorem ev_maxE {H : Heap} {dst : Option Tmp} {x y : Operand} {ts : Array TypeId} {ty : TypeId} {pos : String} {af : Array Edge} {g : Option (Nat × Bool)} {R : Regs} {k : IntKind} {a b z : Int} (hz : (if a < b then b else a) = z) (hx : R.eval x = some (.int k a)) (hy : R.eval y = some (.int k b)) :
    evOp P E R H ⟨dst, .call { callee := .builtin .max, args := #[x, y], argTypes := ts }, ty, pos, af, g⟩ = some (.int k z, H, []) := by subst hz; exact ev_max hx hy
theorem ev_minE {H : Heap} {dst : Option Tmp} {x y : Operand} {ts : Array TypeId} {ty : TypeId} {pos : String} {af : Array Edge} {g : Option (Nat × Bool)} {R : Regs} {k : IntKind} {a b z : Int} (hz : (if b < a then b else a) = z) (hx : R.eval x = some (.int k a)) (hy : R.eval y = some (.int k b)) :
    evOp P E R H ⟨dst, .call { callee := .builtin .min, args := #[x, y], argTypes := ts }, ty, pos, af, g⟩ = some (.int k z, H, []) := by subst hz; exact ev_min hx hy
end Go.AM

/- Rows of one's own, empty or not; writing into them; appending onto nothing. -/
namespace Go.AM
open Go
variable {P : Program} {E : TypeId → Bool}
/-- A row that was made since H0 and is nobody else's. -/
def Mine (H0 H : Heap) (A : Option Addr) (c sz : Nat) (rows : List (List Value)) : Prop :=
  (rows = [] ∧ c = 0) ∨ ∃ b, A = some ⟨b, 0, none⟩ ∧ c = OPEN ∧ Own H b sz rows ∧ H0.next ≤ b
theorem Mine.nil {H0 H : Heap} {A : Option Addr} {sz : Nat} : Mine H0 H A 0 sz [] := .inl ⟨rfl, rfl⟩
theorem Mine.row {H0 H : Heap} {A : Option Addr} {c sz : Nat} {rows : List (List Value)} (h : Mine H0 H A c sz rows) : Row H A c sz rows := by
  rcases h with ⟨rfl, rfl⟩ | ⟨b, rfl, rfl, h, _⟩
  · exact .nil
  · exact h.row
theorem Mine.cap {H0 H : Heap} {A : Option Addr} {c sz : Nat} {rows : List (List Value)} (h : Mine H0 H A c sz rows) (hl : rows.length ≤ 140737488351232) : rows.length ≤ c := by
  rcases h with ⟨rfl, rfl⟩ | ⟨b, rfl, rfl, h, _⟩
  · exact Nat.le_refl _
  · exact Nat.le_trans hl (by decide)
theorem Mine.anil {H0 H : Heap} {A : Option Addr} {c sz : Nat} {rows : List (List Value)} (h : Mine H0 H A c sz rows) : A = none → c = 0 := by
  rcases h with ⟨_, rfl⟩ | ⟨b, rfl, rfl, h, _⟩
  · exact fun _ => rfl
  · exact fun h => by cases h
theorem Mine.own {H0 H : Heap} {A : Option Addr} {c sz : Nat} {rows : List (List Value)} (h : Mine H0 H A c sz rows) (hl : rows.length ≠ 0) : ∃ b, A = some ⟨b, 0, none⟩ ∧ c = OPEN ∧ Own H b sz rows ∧ H0.next ≤ b := by
  rcases h with ⟨rfl, _⟩ | h
  · exact absurd rfl hl
  · exact h
theorem Mine.ext {H0 H H' : Heap} {A : Option Addr} {c sz : Nat} {rows : List (List Value)} (h : Mine H0 H A c sz rows) (he : Ext H H') : Mine H0 H' A c sz rows :=
  h.imp id fun ⟨b, h1, h2, h3, h4⟩ => ⟨b, h1, h2, h3.same he.1 (he.2 b h3.lt), h4⟩
theorem Mine.other {H0 H H' : Heap} {A : Option Addr} {c sz b : Nat} {rows : List (List Value)} (h : Mine H0 H A c sz rows) (hb : b < H0.next) (hn : H.next ≤ H'.next) (hf : ∀ c, c ≠ b → H'.blk c = H.blk c) : Mine H0 H' A c sz rows :=
  h.imp id fun ⟨q, h1, h2, h3, h4⟩ => ⟨q, h1, h2, h3.same hn (hf q (by omega)), h4⟩
theorem Mine.older {H0 H1 H : Heap} {A : Option Addr} {c sz : Nat} {rows : List (List Value)} (h : Mine H0 H A c sz rows) (hn : H1.next ≤ H0.next) : Mine H1 H A c sz rows :=
  h.imp id fun ⟨q, h1, h2, h3, h4⟩ => ⟨q, h1, h2, h3, by omega⟩
theorem Row.anil {α : Type} {f : α → List Value} {H : Heap} {A : Option Addr} {c sz : Nat} {es : List α} (h : Row H A c sz (es.map f)) : A = none → es = [] := by
  rintro rfl
  rcases h with ⟨h, _⟩ | ⟨b, o, h, _⟩
  · simpa using h
  · cases h
theorem flat_one {α : Type} {f : α → List Value} (h : ∀ e, (f e).all Value.oneCell' = true) : ∀ es : List α, (es.map f).flatten.all Value.oneCell' = true
  | [] => rfl
  | e :: es => by rw [List.map_cons, List.flatten_cons, List.all_append, h e, flat_one h es]; rfl
theorem map_len {α : Type} {f : α → List Value} {sz : Nat} (h : ∀ e, (f e).length = sz) (es : List α) : ∀ q ∈ es.map f, q.length = sz := fun q hq => by
  obtain ⟨e, _, rfl⟩ := List.mem_map.1 hq
  exact h e
/-- What a loop has gathered, as a row. -/
theorem Acc.mine {H0 H : Heap} {b sz n : Nat} {rows : List (List Value)} (h : Acc H b sz rows) (hl : rows.length = n) (hb : H0.next ≤ b) : ∃ A c, accV b n = .slice A n c ∧ Mine H0 H A c sz rows := by
  subst hl
  by_cases h0 : rows.length = 0
  · have := List.eq_nil_of_length_eq_zero h0
    subst this
    exact ⟨none, 0, rfl, .nil⟩
  · refine ⟨some ⟨b, 0, none⟩, OPEN, by unfold accV; rw [if_neg h0], ?_⟩
    rcases h with rfl | h
    · exact absurd rfl h0
    · exact .inr ⟨b, rfl, rfl, h, hb⟩
theorem Acc.ext {H H' : Heap} {b sz : Nat} {rows : List (List Value)} (h : Acc H b sz rows) (he : Ext H H') : Acc H' b sz rows := h.imp id fun h => h.same he.1 (he.2 b h.lt)
theorem Acc.write {H H' : Heap} {b p z sz : Nat} {rows : List (List Value)} {cs : List Value} (h : Acc H b sz rows) (hB : H.blk p = some ⟨cs, z, false, false⟩) (hn : H.next ≤ H'.next) (hf : ∀ c, c ≠ p → H'.blk c = H.blk c) : Acc H' b sz rows :=
  h.imp id fun h => h.same hn (hf b (by rintro rfl; rw [h.blk] at hB; cases hB))
/-- One more. -/
theorem mem_append1 {H : Heap} {t e sz bytes b0 m X cx : Nat} {old : List (List Value)} {r : List Value} (hm : old.length = m) (ht : ElemOk P t e sz bytes) (hz : sz ≠ 0) (ho : Acc H b0 sz old) (hX : RowIn H X 0 sz [r])
    (hr : r.length = sz) (h1 : r.all Value.oneCell' = true) (hb : (m + 1) * bytes ≤ 1099511627776) (hb2 : m + 1 ≤ 1099511627776) :
    ∃ b H1 W, (∀ (E : TypeId → Bool) (dst : Option Tmp) (t2 : TypeId) (s x : Operand) (ty : TypeId) (pos : String) (af : Array Edge) (g : Option (Nat × Bool)) (R : Regs), R.eval s = some (accV b0 m) → R.eval x = some (.slice (some ⟨X, 0, none⟩) 1 cx) → isRow P (some t2) = true → evOp P E R H ⟨dst, .call { callee := .builtin .append, args := #[s, x], argTypes := #[t, t2] }, ty, pos, af, g⟩ = some (accV b (m + 1), H1, W)) ∧
      b = H.next ∧ H1.next = b + 1 ∧ Acc H1 b sz (old ++ [r]) ∧ ∀ c, c ≠ b → c ≠ b0 → H1.blk c = H.blk c := by
  subst hm
  obtain ⟨b, H1, W, k1, k2⟩ := mem_append_acc (P := P) (mx := 1) (X := some ⟨X, 0, none⟩) (cx := cx) (new := [r]) rfl ht hz ho hX.row (by simp) (by simpa using hr) (by simpa using h1) (by simpa using hb) (by simpa using hb2)
  refine ⟨b, H1, W, fun E dst t2 s x ty pos af g R hs hx hr => ?_, k2⟩
  rw [k1 E dst t2 s x ty pos af g R hs hx hr, List.length_append]
  rfl
/-- All of a row, onto what is empty and has no room. -/
theorem mem_append_all {H : Heap} {t e sz bytes n : Nat} {A X : Option Addr} {cx : Nat} {new : List (List Value)} (hn : new.length = n) (ht : ElemOk P t e sz bytes) (hz : sz ≠ 0) (hX : Row H X cx sz new)
    (hnl : ∀ q ∈ new, q.length = sz) (h1 : new.flatten.all Value.oneCell' = true) (hb : n * bytes ≤ 1099511627776) (hb2 : n ≤ 1099511627776) :
    ∃ A1 c1 H1, (∀ (E : TypeId → Bool) (dst : Option Tmp) (t2 : TypeId) (s x : Operand) (ty : TypeId) (pos : String) (af : Array Edge) (g : Option (Nat × Bool)) (R : Regs), R.eval s = some (.slice A 0 0) → R.eval x = some (.slice X n cx) → isRow P (some t2) = true → evOp P E R H ⟨dst, .call { callee := .builtin .append, args := #[s, x], argTypes := #[t, t2] }, ty, pos, af, g⟩ = some (.slice A1 n c1, H1, [])) ∧
      Mine H H1 A1 c1 sz new ∧ Ext H H1 := by
  subst hn
  by_cases h0 : new.length = 0
  · have := List.eq_nil_of_length_eq_zero h0
    subst this
    exact ⟨A, 0, H, fun E dst t2 s x ty pos af g R hs hx hr => ev_append0 hs hx ht hr, .nil, .refl H⟩
  · obtain ⟨b, H1, k1, k2, k3, k4, k5⟩ := mem_append_new (P := P) (m := 0) (mx := new.length) (A := A) (c := 0) (old := []) (cx := cx) rfl rfl ht hz (.inl ⟨rfl, by decide⟩) hX h0 (by decide) (by simp; omega) (fun _ => rfl) (by simp) hnl h1 (by simpa using hb) (by simpa using hb2)
    refine ⟨some ⟨b, 0, none⟩, OPEN, H1, fun E dst t2 s x ty pos af g R hs hx hr => ?_, .inr ⟨b, rfl, rfl, k4, by omega⟩, ⟨by omega, fun c hc => k5 c (by omega)⟩⟩
    rw [k1 E dst t2 s x ty pos af g R hs hx hr]
    simp
theorem ba_get {s : ByteArray} {n : Nat} {b : UInt8} (h : s.data.toList[n]? = some b) : s[n]? = some b := by
  obtain ⟨hlt, hb⟩ := List.getElem?_eq_some_iff.1 h
  have h2 : n < s.size := by simpa using hlt
  rw [getElem?_pos s n h2]
  congr 1
theorem ev_convIdI {H : Heap} {s d : TypeId} {x : Operand} {dst : Option Tmp} {ty : TypeId} {pos : String} {af : Array Edge} {g : Option (Nat × Bool)} {R : Regs} {k' : IntKind} {n : Int} {D : TypeDesc} (hs : P.underlying s = some D) (hd : P.underlying d = some (.int .i64)) (hx : R.eval x = some (.int k' n)) (h0 : -9223372036854775808 ≤ n) (h1 : n ≤ 9223372036854775807) :
    evOp P E R H ⟨dst, .convert s d x, ty, pos, af, g⟩ = some (.int .i64 n, H, []) := by
  have := ev_convInt (E := E) (H := H) (dst := dst) (ty := ty) (pos := pos) (af := af) (g := g) hs hd hx
  have hw : IntKind.i64.wrap n = n := by rw [IntKind.wrap_i64]; omega
  rwa [hw] at this
/-! A cell of a row is written. -/
theorem flatten_set {sz k : Nat} {v : Value} (hk : k < sz) : ∀ (rows : List (List Value)) (i : Nat) (r : List Value), (∀ q ∈ rows, q.length = sz) → rows[i]? = some r → rows.flatten.set (i * sz + k) v = (rows.set i (r.set k v)).flatten
  | [], i, r, _, h => by simp at h
  | q :: rows, 0, r, hl, h => by
    simp at h
    subst h
    have := hl q (by simp)
    simp only [Nat.zero_mul, Nat.zero_add, List.flatten_cons, List.set_cons_zero]
    rw [List.set_append_left _ _ (by omega)]
  | q :: rows, i + 1, r, hl, h => by
    have hq := hl q (by simp)
    simp only [List.flatten_cons, List.set_cons_succ]
    rw [List.set_append_right _ _ (by rw [hq, Nat.succ_mul]; omega), hq, show (i + 1) * sz + k - sz = i * sz + k by rw [Nat.succ_mul]; omega,
      flatten_set hk rows i r (fun q hq => hl q (by simp [hq])) (by simpa using h)]
theorem mem_storeRow {H : Heap} {t : TypeId} {b sz i k : Nat} {rows : List (List Value)} {r : List Value} {v : Value} (hs : sizeIs P t 1 = true) (hv : v.cells.toList = [v]) (h1 : Value.oneCell' v = true) (ho : Own H b sz rows) (hi : rows[i]? = some r) (hk : k < sz) :
    ∃ H1, (∀ (E : TypeId → Bool) (dst : Option Tmp) (a y : Operand) (ty : TypeId) (pos : String) (af : Array Edge) (gd : Option (Nat × Bool)) (R : Regs), R.eval a = some (.pointer (some ⟨b, 0 + i * sz + k, none⟩)) → R.eval y = some v → evOp P E R H ⟨dst, .store t a y, ty, pos, af, gd⟩ = some (undef, H1, [b])) ∧
      H1.next = H.next ∧ Own H1 b sz (rows.set i (r.set k v)) ∧ ∀ c, c ≠ b → H1.blk c = H.blk c := by
  have hlen : rows.flatten.length = rows.length * sz := flatten_len rows ho.len
  have hlt : i < rows.length := (List.getElem?_eq_some_iff.1 hi).1
  have hle : (i + 1) * sz ≤ rows.length * sz := Nat.mul_le_mul_right _ hlt
  rw [Nat.succ_mul] at hle
  have hr := ho.len r (List.mem_of_getElem? hi)
  obtain ⟨H1, q1, q2, q3, q4⟩ := mem_store (P := P) (t := t) (o := 0 + i * sz + k) (v := v) (vs := [v]) (cs' := (rows.set i (r.set k v)).flatten) 1 hv rfl hs ho.blk (by simp only [List.length_singleton]; exact Nat.ble_eq_true_of_le (by omega)) (by simp [h1]) (by
    rw [← flatten_set hk rows i r ho.len hi, Nat.zero_add, List.set_eq_take_append_cons_drop, if_pos (by omega)]
    simp)
  refine ⟨H1, q1, q2, ⟨by rw [q2]; exact ho.lt, q3, fun q hq => ?_⟩, q4⟩
  rcases List.mem_or_eq_of_mem_set hq with h | h
  · exact ho.len q h
  · rw [h, List.length_set]; exact hr
end Go.AM

/- Rows that draw, in which a new block may come early: the rules. -/
namespace Go.AM
open Go
variable {P : Program} {E : TypeId → Bool}
def zipN : List Oper → List (Bool × Bool × Bool) → List (Oper × Bool × Bool × Bool)
  | o :: os, m :: ms => (o, m.1, m.2.1, m.2.2) :: zipN os ms
  | _, _ => []
def marksN (P : Program) (ops : Array Oper) (nms : List Bool) : Nat → Nat → List (Bool × Bool × Bool)
  | 0, _ => []
  | k + 1, i => (looseR P ops i, looseE P ops i, nmOf nms i) :: marksN P ops nms k (i + 1)
theorem flagsN_zip (P : Program) (ops : Array Oper) (nms : List Bool) : ∀ (os : List Oper) (i : Nat), flagsN P ops nms os i = zipN os (marksN P ops nms os.length i)
  | [], _ => rfl
  | o :: os, i => by simp only [flagsN, List.length_cons, marksN, zipN, flagsN_zip P ops nms os (i + 1)]
theorem room_ext (H : Heap) (n : Nat) : Ext H (H.room n) := ⟨Nat.le_add_right _ _, fun _ _ => rfl⟩
theorem aw_marksN {id : Nat} {os : List Oper} {r : Regs} {H : Heap} {Q : Ex → Regs → Heap → Prop} (keep : Nat → Prop) (m : Nat) (nms : List Bool) (ms : List (Bool × Bool × Bool)) (hl : os.length = m) (hm : P.follows .mixedOrders = true) (hd : drawOkN P os.toArray (nmOf nms) = true) (hms : marksN P os.toArray nms os.length 0 = ms)
    (h : ∀ base Hr, base = H.next → Hr.next = H.next + m → Ext H Hr → awLN P E os.toArray base keep 0 (zipN os ms) r Hr fun r H => Q .normal r H) : aw P E (.region id os.toArray true) r H Q := by
  subst hl
  exact aw_drwN keep hm hd (by rw [flagsN_zip, hms]; exact h H.next (H.room os.length) rfl rfl (room_ext H _))
section
variable {ops : Array Oper} {n m k base : Nat} {r : Slots} {H H' : Heap} {K : Regs → Heap → Prop} {o : Oper} {v : Value} {W : List Nat} {d : Tmp} {keep : Nat → Prop} {os : List Oper} {ms : List (Bool × Bool × Bool)} {lr le : Bool}
/-- One that reads no memory, or leaves it, .. -/
theorem sn_op (he : evOp P E (RL n r) H o = some (v, H', W)) (hd : o.dst = some d) (hn : Nat.blt d n = true) (hw : wants ops (RL n r) o = some true) (hr : rdB P (RL n r) o = none) (hle : le = true → ∀ b, keep b → H'.blk b = H.blk b)
    (q : awLN P E ops base keep (k + 1) (zipN os ms) (RL n (.cons d v r)) H' K) : awLN P E ops base keep k (zipN (o :: os) ((lr, le, false) :: ms)) (RL n r) H K :=
  ⟨v, H', (fun _ => ⟨dst_some hd hn, .inr ⟨hw, .op he⟩⟩), (fun h => nomatch h), (fun _ _ b hb => by rw [hr] at hb; cases hb), hle, (fun _ b hb => by rw [hr] at hb; cases hb), by rw [put_some hd]; exact q⟩
theorem sn_op0 (he : evOp P E (RL n r) H o = some (v, H', W)) (hd : o.dst = none) (hw : wants ops (RL n r) o = some true) (hr : rdB P (RL n r) o = none) (hle : le = true → ∀ b, keep b → H'.blk b = H.blk b)
    (q : awLN P E ops base keep (k + 1) (zipN os ms) (RL n r) H' K) : awLN P E ops base keep k (zipN (o :: os) ((lr, le, false) :: ms)) (RL n r) H K :=
  ⟨v, H', (fun _ => ⟨by rw [hd]; rfl, .inr ⟨hw, .op he⟩⟩), (fun h => nomatch h), (fun _ _ b hb => by rw [hr] at hb; cases hb), hle, (fun _ b hb => by rw [hr] at hb; cases hb), by rw [hd]; exact q⟩
theorem sn_skip {nm : Bool} (hw : wants ops (RL n r) o = some false) (hd : o.dst = some d) (hn : Nat.blt d n = true) (hs : nm = true → still P o = false) (q : awLN P E ops base keep (k + 1) (zipN os ms) (RL n (.cons d undef r)) H K) : awLN P E ops base keep k (zipN (o :: os) ((lr, le, nm) :: ms)) (RL n r) H K :=
  ⟨undef, H, (fun _ => ⟨dst_some hd hn, .inl ⟨hw, rfl, rfl⟩⟩), (fun h => ⟨hs h, dst_some hd hn, .inl ⟨hw, rfl, rfl⟩⟩), (fun _ h => by rw [hw] at h; cases h), (fun _ _ _ => rfl), (fun h => by rw [hw] at h; cases h), by rw [put_some hd]; exact q⟩
/-- One that reads a block that was there. -/
theorem sn_read (m : Nat) (hsz : ops.size = m) (he : evOp P E (RL n r) H o = some (v, H', W)) (hd : o.dst = some d) (hn : Nat.blt d n = true) (hw : wants ops (RL n r) o = some true) (hk : ∀ b, rdB P (RL n r) o = some b → keep b ∧ ¬ (base ≤ b ∧ b < base + m)) (hle : le = true → ∀ b, keep b → H'.blk b = H.blk b)
    (q : awLN P E ops base keep (k + 1) (zipN os ms) (RL n (.cons d v r)) H' K) : awLN P E ops base keep k (zipN (o :: os) ((lr, le, false) :: ms)) (RL n r) H K :=
  ⟨v, H', (fun _ => ⟨dst_some hd hn, .inr ⟨hw, .op he⟩⟩), (fun h => nomatch h), (fun _ _ b hb => (hk b hb).1), hle, (fun _ b hb => by rw [hsz]; exact (hk b hb).2), by rw [put_some hd]; exact q⟩
theorem sn_call {c : Call} {f : FuncId} {args : List Value} (ho : o.op = .call c) (hc : c.callee = .value (.func f)) (ha : evals (RL n r) c.args.toList = some args) (hf : enters P f = true) (hd : o.dst = some d) (hn : Nat.blt d n = true) (hw : wants ops (RL n r) o = some true)
    (h : ∃ v H', Spec P f args H v H' ∧ (le = true → ∀ b, keep b → H'.blk b = H.blk b) ∧ awLN P E ops base keep (k + 1) (zipN os ms) (RL n (.cons d v r)) H' K) : awLN P E ops base keep k (zipN (o :: os) ((lr, le, false) :: ms)) (RL n r) H K := by
  obtain ⟨v, H', h, hk, q⟩ := h
  have hr : rdB P (RL n r) o = none := by unfold rdB; rw [ho]
  exact ⟨v, H', (fun _ => ⟨dst_some hd hn, .inr ⟨hw, .call ho hc rfl ha hf (by simpa using h)⟩⟩), (fun h => nomatch h), (fun _ _ b hb => by rw [hr] at hb; cases hb), hk, (fun _ b hb => by rw [hr] at hb; cases hb), by rw [put_some hd]; exact q⟩
theorem sn_bool (d : Tmp) {b : Bool} {ld : List (Oper × Bool × Bool × Bool)} (h : lk r d = some (.bool b)) (ht : b = true → awLN P E ops base keep k ld (RL n (.cons d (.bool true) r)) H K) (hf : b = false → awLN P E ops base keep k ld (RL n (.cons d (.bool false) r)) H K) : awLN P E ops base keep k ld (RL n r) H K := by
  rw [RL_bool h]
  cases b with
  | true => exact ht rfl
  | false => exact hf rfl
/-- A new variable, under its own name. -/
theorem sn_alloc {e : TypeId} {zc : List Value} (i : Nat) (hi : base + k = i) (hz : ZeroIs P e zc) (ho : o.op = .alloc e) (hd : o.dst = some d) (hn : Nat.blt d n = true) (hw : wants ops (RL n r) o = some true) (hkeep : le = true → ∀ b, keep b → b ≠ i)
    (q : ∀ H1, H1.next = H.next → H1.blk i = some ⟨zc, zc.length, false, false⟩ → (∀ c, c ≠ i → H1.blk c = H.blk c) → awLN P E ops base keep (k + 1) (zipN os ms) (RL n (.cons d (.pointer (some ⟨i, 0, none⟩)) r)) H1 K) : awLN P E ops base keep k (zipN (o :: os) ((lr, le, true) :: ms)) (RL n r) H K := by
  subst hi
  obtain ⟨z, h1, rfl, h3, h4⟩ := hz
  have hr : rdB P (RL n r) o = none := by unfold rdB; rw [ho]
  refine ⟨.pointer (some ⟨base + k, 0, none⟩), H.set (base + k) (some ⟨z.cells.toList, z.cells.toList.length, false, false⟩), (fun h => nomatch h), (fun _ => ⟨by unfold still; rw [ho], dst_some hd hn, .inr ⟨hw, _, ?_, rfl⟩⟩), (fun _ _ b hb => by rw [hr] at hb; cases hb), (fun hl b hb => by simp [Heap.set, hkeep hl b hb]), (fun _ b hb => by rw [hr] at hb; cases hb), ?_⟩
  · unfold freshAt
    rw [ho]
    simp only [h1, Option.bind_some]
    rw [if_pos ⟨h3, h4⟩]
    simp
  · rw [put_some hd]
    exact q _ rfl (by simp [Heap.set]) (fun c hc => by simp [Heap.set, hc])
end
end Go.AM

/- A law's arguments, of any kind, laid into our memory: what they are there. -/
namespace Go.AM
open Go Go.ChangeShapes Go.Deep Go.RowKit
def Sits (Hp : Heap) (n : Nat) (bs : List (Option Blk)) : Prop := n + bs.length ≤ Hp.next ∧ ∀ j B, bs[j]? = some (some B) → Hp.blk (n + j) = some B
theorem Sits.left {Hp : Heap} {n : Nat} {b1 b2 : List (Option Blk)} (h : Sits Hp n (b1 ++ b2)) : Sits Hp n b1 :=
  ⟨by have := h.1; simp only [List.length_append] at this; omega, fun j B hj => h.2 j B (by rw [List.getElem?_append_left (List.getElem?_eq_some_iff.1 hj).1]; exact hj)⟩
theorem Sits.right {Hp : Heap} {n : Nat} {b1 b2 : List (Option Blk)} (h : Sits Hp n (b1 ++ b2)) : Sits Hp (n + b1.length) b2 :=
  ⟨by have := h.1; simp only [List.length_append] at this; omega, fun j B hj => by
    have := h.2 (b1.length + j) B (by rw [List.getElem?_append_right (by omega)]; simpa using hj)
    rw [Nat.add_assoc]; exact this⟩
theorem Sits.made (n : Nat) (bs : List (Option Blk)) : Sits (Heap.ofList (List.replicate n none ++ bs)) n bs :=
  ⟨by simp [Heap.ofList], fun j B hj => by simp [Heap.ofList, List.getElem?_append_right, hj]⟩
def Laid {H : Type} (P : Program) (m : Nat) (t : TypeId) (K : Heap → List Value → Prop) (d : DataW H) : Prop :=
  ∀ n, ∃ vs bs, impOne P m t d n = some (vs, bs) ∧ ∀ Hp, Sits Hp n bs → K Hp vs
def OpensK {α : Type} (P : Program) (m : Nat) (t : TypeId) (K : Heap → α → List Value → Prop) (wf : α → Prop) : Prop :=
  ∀ (H : Type) (enc : TypeId × Value → H) (w : World) (base : Nat) (sp : Nat → Bool) (held : Bool) (fuel : Nat) (cs : List Value) (y : DataW H × List MemPlace),
    DataW.trod enc P w base sp held fuel t cs = some y → (∀ n ∈ y.1.weights P t, n ≤ reachBytes) → ∃ x, wf x ∧ Laid P m t (fun Hp vs => K Hp x vs) y.1
section
variable {P : Program} {m : Nat} {t : TypeId}
theorem opensK_int {k : IntKind} (ht : P.underlying t = some (.int k)) : OpensK P (m + 1) t (fun _ (x : Int) vs => vs = [.int k x]) (fun n => (Lit.int k n).wf = true) := by
  intro H enc w base sp held fuel cs y hy _
  obtain ⟨n, rfl, rfl, hw⟩ := DataW.trod_int ht hy
  exact ⟨n, hw, fun q => ⟨[.int k n], [], by simp [impOne, ht], fun _ _ => rfl⟩⟩
theorem opensK_bool (ht : P.underlying t = some .bool) : OpensK P (m + 1) t (fun _ (x : Bool) vs => vs = [.bool x]) (fun _ => True) := by
  intro H enc w base sp held fuel cs y hy _
  obtain ⟨n, rfl, rfl⟩ := DataW.trod_bool ht hy
  exact ⟨n, trivial, fun q => ⟨[.bool n], [], by simp [impOne, ht], fun _ _ => rfl⟩⟩
theorem opensK_string (ht : P.underlying t = some .string) : OpensK P (m + 1) t (fun _ (x : ByteArray) vs => vs = [.string x]) (fun s => s.size ≤ 140737488351232) := by
  intro H enc w base sp held fuel cs y hy hn
  obtain ⟨s, rfl, rfl, _⟩ := DataW.trod_string ht hy
  refine ⟨s, ?_, fun q => ⟨[.string s], [], by simp [impOne, ht], fun _ _ => rfl⟩⟩
  have := hn s.data.toList.length (by simp [DataW.weights])
  simpa [reachBytes] using this
theorem wmem_all {H : Type} {e : TypeId} : ∀ {ds : List (DataW H)} {d : DataW H}, d ∈ ds → ∀ n ∈ d.weights P e, n ∈ DataW.weightsAll P e ds
  | d0 :: ds, d, hd, n, hn => by
    simp only [DataW.weightsAll, List.mem_append]
    rcases List.mem_cons.1 hd with rfl | hd
    · exact .inl hn
    · exact .inr (wmem_all hd n hn)
theorem listOf {α : Type} {p : Nat → α → Prop} : ∀ (n : Nat), (∀ i, i < n → ∃ x, p i x) → ∃ xs : List α, xs.length = n ∧ ∀ i x, xs[i]? = some x → p i x
  | 0, _ => ⟨[], rfl, fun i x h => by simp at h⟩
  | n + 1, h => by
    obtain ⟨xs, hl, hx⟩ := listOf n (fun i hi => h i (by omega))
    obtain ⟨x, hp⟩ := h n (by omega)
    refine ⟨xs ++ [x], by simp [hl], fun i y hy => ?_⟩
    by_cases hi : i < xs.length
    · rw [List.getElem?_append_left hi] at hy
      exact hx i y hy
    · rw [List.getElem?_append_right (by omega)] at hy
      have hlt : i - xs.length < 1 := by
        obtain ⟨hq, _⟩ := List.getElem?_eq_some_iff.1 hy
        simpa using hq
      have hi0 : i - xs.length = 0 := by omega
      rw [hi0] at hy
      have hin : i = n := by omega
      subst hin
      simp at hy
      subst hy
      exact hp
/-- The elements of a row. -/
theorem laidL {H : Type} {α : Type} {e : TypeId} {K : Heap → α → List Value → Prop} : ∀ (ds : List (DataW H)) (xs : List α), xs.length = ds.length → (∀ (i : Nat) (d : DataW H) (x : α), ds[i]? = some d → xs[i]? = some x → Laid P m e (fun Hp vs => K Hp x vs) d) →
    ∀ n, ∃ (rows : List (List Value)) (bs : List (Option Blk)), impL (impOne P m) (List.replicate ds.length e) ds n = some (rows.flatten, bs) ∧ rows.length = xs.length ∧ ∀ Hp, Sits Hp n bs → ∀ (i : Nat) (x : α) (r : List Value), xs[i]? = some x → rows[i]? = some r → K Hp x r
  | [], xs, hl, _, n => ⟨[], [], rfl, hl.symm, fun _ _ i x r _ h => by simp at h⟩
  | d :: ds, [], hl, _, _ => by simp at hl
  | d :: ds, x :: xs, hl, h, n => by
    obtain ⟨vs, b1, h1, k1⟩ := h 0 d x rfl rfl n
    obtain ⟨rows, b2, h2, h3, k2⟩ := laidL ds xs (by simpa using hl) (fun i d x a b => h (i + 1) d x (by simpa using a) (by simpa using b)) (n + b1.length)
    refine ⟨vs :: rows, b1 ++ b2, ?_, by simp [h3], fun Hp hs i y r hy hr => ?_⟩
    · simp [List.replicate_succ, impL, h1, h2]
    · cases i with
      | zero => simp at hy hr; subst hy hr; exact k1 Hp hs.left
      | succ i => simp at hy hr; exact k2 Hp hs.right i y r hy hr
def KSlice {α : Type} (sz : Nat) (K : Heap → α → List Value → Prop) (Hp : Heap) (xs : List α) (vs : List Value) : Prop :=
  ∃ (A : Option Addr) (c : Nat) (rows : List (List Value)), vs = [.slice A xs.length c] ∧ xs.length ≤ c ∧ c < OPEN ∧ (A = none → c = 0) ∧ Row Hp A c sz rows ∧ rows.length = xs.length ∧ ∀ (i : Nat) (x : α) (r : List Value), xs[i]? = some x → rows[i]? = some r → K Hp x r
theorem opensK_slice {α : Type} {e B : Nat} {K : Heap → α → List Value → Prop} {wf : α → Prop} (ht : P.underlying t = some (.slice e)) (hz : P.cellsOf e ≠ 0) (hB : P.bytesOf e = B) (hK : ∀ Hp x vs, K Hp x vs → vs.length = P.cellsOf e) (h : OpensK P m e K wf) :
    OpensK P (m + 1) t (KSlice (P.cellsOf e) K) (fun xs => xs.length ≤ maxLen ∧ xs.length * B ≤ 140737488351232 ∧ ∀ x ∈ xs, wf x) := by
  intro H enc w base sp held fuel cs y hy hn
  rcases Go.Deep.open_slice ht hy with ⟨rfl, rfl⟩ | ⟨a, len, cap, l, n, D, Pl, rfl, hb, hl, hm, hmm, rfl, hx⟩
  · exact ⟨[], ⟨Nat.zero_le _, by simp, by simp⟩, fun q => ⟨[.slice none 0 0], [], by simp [impOne, ht], fun _ _ => ⟨none, 0, [], rfl, Nat.le_refl _, by decide, fun _ => rfl, .nil, rfl, fun i x r hx => by simp at hx⟩⟩⟩
  · have hlm : len ≤ l := by rw [hmm]; split <;> omega
    have hlc : l ≤ cap := by rw [hmm]; split <;> omega
    have hw : ∀ i, i < len → ∀ q ∈ (D i).weights P e, q ≤ reachBytes := by
      intro i hi q hq
      refine hn q ?_
      simp only [DataW.weights, ht, List.mem_cons, List.mem_append]
      exact .inr (.inl (wmem_all (List.mem_map.2 ⟨i, List.mem_range.2 hi, rfl⟩) q hq))
    obtain ⟨xs, hlen, hxs⟩ := listOf (p := fun i x => wf x ∧ Laid P m e (fun Hp vs => K Hp x vs) (D i)) len (fun i hi => by
      obtain ⟨cs', h1, h2⟩ := hx i (by omega)
      obtain ⟨x, hwf, hk⟩ := h H enc w base sp held n cs' _ h2 (hw i hi)
      exact ⟨x, hwf, hk⟩)
    subst hlen
    refine ⟨xs, ⟨Nat.le_trans hl hm, ?_, fun x hx' => ?_⟩, fun q => ?_⟩
    · have := hn ((xs.length + (l - xs.length)) * B) (by simp [DataW.weights, ht, hB])
      have h7 : xs.length * B ≤ (xs.length + (l - xs.length)) * B := Nat.mul_le_mul_right _ (by omega)
      have h8 : reachBytes = 140737488351232 + 4096 - 4096 := by decide
      omega
    · obtain ⟨i, hi⟩ := List.mem_iff_getElem?.1 hx'
      exact (hxs i x hi).1
    · have hds : ((List.range xs.length).map D).length = xs.length := by simp
      obtain ⟨rows, bs, h1, h2, h3⟩ := laidL (P := P) (m := m) (e := e) (K := K) ((List.range xs.length).map D) xs hds.symm (fun i d x hi hx' => by
        have hlt := (List.getElem?_eq_some_iff.1 hx').1
        rw [List.getElem?_map, List.getElem?_range hlt] at hi
        simp at hi
        subst hi
        exact (hxs i x hx').2) (q + 1)
      refine ⟨_, _, by simp only [impOne, ht, hz, if_false, h1, Option.map_some]; rfl, fun Hp hs => ?_⟩
      have hrl : ∀ r ∈ rows, r.length = P.cellsOf e := by
        intro r hr
        obtain ⟨i, hi⟩ := List.mem_iff_getElem?.1 hr
        have hlt := (List.getElem?_eq_some_iff.1 hi).1
        exact hK Hp _ r (h3 Hp (Sits.right (b1 := [_]) hs) i _ r (List.getElem?_eq_getElem (by omega)) hi)
      refine ⟨some ⟨q, 0, none⟩, xs.length + (l - xs.length), rows, by simp, by omega, ?_, (fun h => by cases h), ?_, h2, h3 Hp (Sits.right (b1 := [_]) hs)⟩
      · have : maxLen < OPEN := by decide
        omega
      · by_cases h0 : xs.length = 0
        · have : rows = [] := List.eq_nil_of_length_eq_zero (by omega)
          have h9 : maxLen < OPEN := by decide
          exact .inl ⟨this, by omega⟩
        · refine .inr ⟨q, 0, rfl, ?_, ⟨rows.flatten, P.cellsOf e, true, false⟩, ?_, rfl, hrl, fun j v hj => by simpa using hj⟩
          · have := hs.1; simp only [List.length_cons] at this; omega
          · have h8 : ((List.range xs.length).map D).isEmpty = false := by
              cases hr : (List.range xs.length).map D with
              | nil => rw [hr] at hds; simp at hds; omega
              | cons _ _ => rfl
            exact hs.2 0 _ (by rw [h8]; rfl)
/-- Fields one behind the other. -/
def OpensL {α : Type} (P : Program) (m : Nat) (ts : List TypeId) (K : Heap → α → List Value → Prop) (wf : α → Prop) : Prop :=
  ∀ (H : Type) (enc : TypeId × Value → H) (w : World) (base : Nat) (sp : Nat → Bool) (held : Bool) (fuel : Nat) (ds : List (DataW H)), ds.length = ts.length →
    (∀ (i : Nat) (t : TypeId) (d : DataW H), ts[i]? = some t → ds[i]? = some d → ∃ cs p, DataW.trod enc P w base sp held fuel t cs = some (d, p) ∧ ∀ n ∈ d.weights P t, n ≤ reachBytes) →
    ∃ x, wf x ∧ ∀ n, ∃ vs bs, impL (impOne P m) ts ds n = some (vs, bs) ∧ ∀ Hp, Sits Hp n bs → K Hp x vs
theorem opensL_nil : OpensL P m [] (fun _ (_ : Unit) vs => vs = []) (fun _ => True) := by
  intro H enc w base sp held fuel ds hl _
  obtain rfl : ds = [] := List.eq_nil_of_length_eq_zero hl
  exact ⟨(), trivial, fun n => ⟨[], [], rfl, fun _ _ => rfl⟩⟩
theorem opensL_cons {α β : Type} {ts : List TypeId} {Ka : Heap → α → List Value → Prop} {Kb : Heap → β → List Value → Prop} {wa : α → Prop} {wb : β → Prop} (h : OpensK P m t Ka wa) (hs : OpensL P m ts Kb wb) :
    OpensL P m (t :: ts) (fun Hp (x : α × β) vs => ∃ v1 v2, vs = v1 ++ v2 ∧ Ka Hp x.1 v1 ∧ Kb Hp x.2 v2) (fun x => wa x.1 ∧ wb x.2) := by
  intro H enc w base sp held fuel ds hl hf
  cases ds with
  | nil => simp at hl
  | cons d ds =>
    obtain ⟨cs, p, h1, h2⟩ := hf 0 t d rfl rfl
    obtain ⟨x, hwx, hx⟩ := h H enc w base sp held fuel cs _ h1 h2
    obtain ⟨y, hwy, hy⟩ := hs H enc w base sp held fuel ds (by simpa using hl) (fun i t d a b => hf (i + 1) t d (by simpa using a) (by simpa using b))
    refine ⟨(x, y), ⟨hwx, hwy⟩, fun n => ?_⟩
    obtain ⟨v1, b1, i1, k1⟩ := hx n
    obtain ⟨v2, b2, i2, k2⟩ := hy (n + b1.length)
    exact ⟨v1 ++ v2, b1 ++ b2, by simp [impL, i1, i2], fun Hp hS => ⟨v1, v2, rfl, k1 Hp hS.left, k2 Hp hS.right⟩⟩
theorem opensK_struct {α : Type} {fs : Array Field} {ts : List TypeId} {K : Heap → α → List Value → Prop} {wf : α → Prop} (ht : P.underlying t = some (.struct fs)) (hc : contig P fs.toList 0 = some (P.cellsOf t)) (hts : fs.toList.map (·.type) = ts) (h : OpensL P m ts K wf) : OpensK P (m + 1) t K wf := by
  subst hts
  intro H enc w base sp held fuel cs y hy hn
  obtain ⟨xs, n, _, rfl, hl, hlen, hf⟩ := DataW.trod_struct ht hy
  obtain ⟨x, hwx, hx⟩ := h H enc w base sp held n (xs.map (·.1)) (by simp [hlen]) (fun i t' d hi hd => by
    rw [List.getElem?_map] at hi hd
    obtain ⟨f, hi', rfl⟩ := Option.map_eq_some_iff.1 hi
    obtain ⟨z, hz, rfl⟩ := Option.map_eq_some_iff.1 hd
    have hi2 : fs[i]? = some f := by simpa using hi'
    have hq := hf i f hi2
    rw [hz] at hq
    refine ⟨_, z.2, hq, fun q hq' => hn q ?_⟩
    simp only [DataW.weights, ht]
    refine DataW.weights_mem_each (j := i) (t := f.type) (d := z.1) ?_ ?_ q hq'
    · simp [hi2]
    · simp [hz])
  refine ⟨x, hwx, fun q => ?_⟩
  obtain ⟨vs, bs, h1, h2⟩ := hx q
  exact ⟨vs, bs, by simp only [impOne, ht, hc, if_true]; exact h1, h2⟩
theorem OpensK.conv {α β : Type} {K : Heap → α → List Value → Prop} {K' : Heap → β → List Value → Prop} {wf : α → Prop} {wf' : β → Prop} (h : OpensK P m t K wf) (f : α → β) (hK : ∀ Hp x vs, K Hp x vs → K' Hp (f x) vs) (hw : ∀ x, wf x → wf' (f x)) : OpensK P m t K' wf' := by
  intro H enc w base sp held fuel cs y hy hn
  obtain ⟨x, hwx, hx⟩ := h H enc w base sp held fuel cs y hy hn
  refine ⟨f x, hw x hwx, fun n => ?_⟩
  obtain ⟨vs, bs, h1, h2⟩ := hx n
  exact ⟨vs, bs, h1, fun Hp hS => hK Hp x vs (h2 Hp hS)⟩
/-- A slice of things without blocks of their own. -/
def KRow {α : Type} (sz : Nat) (cells : α → List Value) (Hp : Heap) (xs : List α) (vs : List Value) : Prop :=
  ∃ A c, vs = [.slice A xs.length c] ∧ xs.length ≤ c ∧ c < OPEN ∧ (A = none → c = 0) ∧ Row Hp A c sz (xs.map cells)
theorem KSlice.flat {α : Type} {sz : Nat} {cells : α → List Value} {Hp : Heap} {xs : List α} {vs : List Value} (h : KSlice sz (fun _ x vs => vs = cells x) Hp xs vs) : KRow sz cells Hp xs vs := by
  obtain ⟨A, c, rows, h1, h2, h3, h4, h5, h6, h7⟩ := h
  have : rows = xs.map cells := by
    apply List.ext_getElem? fun i => ?_
    rw [List.getElem?_map]
    rcases Nat.lt_or_ge i xs.length with hi | hi
    · rw [List.getElem?_eq_getElem hi, List.getElem?_eq_getElem (by omega), h7 i xs[i] rows[i] (List.getElem?_eq_getElem hi) (List.getElem?_eq_getElem (by omega))]; rfl
    · rw [List.getElem?_eq_none hi, List.getElem?_eq_none (by omega)]; rfl
  exact ⟨A, c, h1, h2, h3, h4, this ▸ h5⟩
/-- All arguments. -/
def LaidArgs {H : Type} (P : Program) (m : Nat) (ts : List TypeId) (ds : List (DataW H)) (n : Nat) (Q : Heap → List Value → Prop) : Prop :=
  ∃ vs bs, impArgs P m ts ds n = some (vs, bs) ∧ ∀ Hp, Sits Hp n bs → Q Hp vs
theorem laidArgs_nil {H : Type} (n : Nat) : LaidArgs (H := H) P m [] [] n (fun _ vs => vs = []) := ⟨[], [], rfl, fun _ _ => rfl⟩
theorem laidArgs_cons {H : Type} {d : DataW H} {ds : List (DataW H)} {ts : List TypeId} {n : Nat} {K : Heap → List Value → Prop} {Q : Heap → List Value → Prop} {KA : Heap → Value → Prop} (h : Laid P m t K d) (hv : ∀ Hp vs, K Hp vs → ∃ v, argV P t vs = some v ∧ KA Hp v) (hs : ∀ n, LaidArgs P m ts ds n Q) :
    LaidArgs P m (t :: ts) (d :: ds) n (fun Hp l => ∃ v ws, l = v :: ws ∧ KA Hp v ∧ Q Hp ws) := by
  obtain ⟨vs, b1, h1, k1⟩ := h n
  obtain ⟨ws, b2, h2, k2⟩ := hs (n + b1.length)
  obtain ⟨v, hv1, _⟩ := hv _ vs (k1 _ (Sits.made n b1))
  refine ⟨v :: ws, b1 ++ b2, by simp [impArgs, h1, hv1, h2], fun Hp hS => ⟨v, ws, rfl, ?_, k2 Hp hS.right⟩⟩
  obtain ⟨v', e, hk⟩ := hv Hp vs (k1 Hp hS.left)
  rw [hv1] at e
  cases e
  exact hk
theorem argV_plain {vs : List Value} {v : Value} (h : (match P.underlying t with | some (.struct _) | some (.array _ _) => false | _ => true) = true) (hv : vs = [v]) : argV P t vs = some v := by
  subst hv
  unfold argV
  split <;> simp_all
theorem argV_agg {vs : List Value} (h : (match P.underlying t with | some (.struct _) | some (.array _ _) => true | _ => false) = true) : argV P t vs = some (.agg vs.toArray) := by
  unfold argV
  split <;> simp_all
/-- An argument of a row. -/
theorem OpensK.arg {α : Type} {H : Type} {enc : TypeId × Value → H} {W : World} {base : Nat} {sp : Nat → Bool} {held : Bool} {K : Heap → α → List Value → Prop} {wf : α → Prop} {v : Value} {dv : DataW H} {ps : List MemPlace} {ts : List TypeId} {ds : List (DataW H)} {j : Nat}
    (h : OpensK P m t K wf) (hsz : (DataW.weightsEach P ts ds).all (· ≤ reachBytes) = true) (ht : ts[j]? = some t) (hd : ds[j]? = some dv) (hv : DataW.Trod enc P W base sp held t v dv ps) : ∃ x, wf x ∧ Laid P m t (fun Hp vs => K Hp x vs) dv := by
  obtain ⟨fuel, hf⟩ := hv
  refine h H enc W base sp held fuel _ _ hf (fun n hn => ?_)
  have := List.all_eq_true.1 hsz _ (DataW.weights_mem_each ht hd n hn)
  simpa using this
/-- A law, from what it comes to over our memory. -/
theorem law_open {H : Type} {enc : TypeId × Value → H} {w : World} {r : Reach} {base : Nat} {ts : List TypeId} {args : Array Value} {ds : List (DataW H)} {ps : List MemPlace} {f : FuncId} {Q : Heap → List Value → Prop} {v : Value}
    (hT : DataW.TrodAll enc P w 0 (fun _ => true) true ts args.toList ds ps) (hok : ∀ (j : Nat) (t : TypeId) (v : Value), ts[j]? = some t → args[j]? = some v → Value.okWide P w r base t v) (hl : LaidArgs P m ts ds 0 Q)
    (hs : ∀ Hp vs, Q Hp vs → ∃ H', Spec P f vs Hp v H') (hv : flat v = true) : Calls P f args w fun e w' => e = .returned v ∧ Go.RowKit.Below w.heap.size w w' := by
  obtain ⟨vs, bs, h1, h2⟩ := hl
  obtain ⟨H', h3⟩ := hs (Heap.ofList bs) vs (h2 _ ⟨by simp [Heap.ofList], fun j B hj => by simp [Heap.ofList, hj]⟩)
  exact law_go hT hok h1 h3 hv
end
end Go.AM
