/- Part of a machine of its own for this claim: the program's code over memory without draws. -/
import Derived.Test.YtoamlagpnnmnhaaAmRep16
set_option linter.unusedVariables false
set_option linter.unusedSimpArgs false
set_option linter.unnecessarySimpa false
/- Appended onto what has no room behind. -/
set_option linter.unusedSimpArgs false
namespace Go.AM
open Go
variable {P : Program}
theorem mem_append_cap {α : Type} {f : α → List Value} {old new : List α} {H : Heap} {t e sz bytes m mx : Nat} {A X : Option Addr} {c cx : Nat} (hm : old.length = m) (hmx : new.length = mx) (ht : ElemOk P t e sz bytes) (hz : sz ≠ 0) (ho : Row H A c sz (old.map f)) (hX : Row H X cx sz (new.map f)) (hn0 : 0 < new.length) (hc : c < OPEN) (hle : c ≤ old.length) (hA : A = none → c = 0)
    (hl : ∀ e, (f e).length = sz) (h1 : ∀ e, (f e).all Value.oneCell' = true) (hb : (old.length + new.length) * bytes ≤ 1099511627776) (hb2 : old.length + new.length ≤ 1099511627776) :
    ∃ b H1, (∀ (E : TypeId → Bool) (dst : Option Tmp) (t2 : TypeId) (s x : Operand) (ty : TypeId) (pos : String) (af : Array Edge) (g : Option (Nat × Bool)) (R : Regs), R.eval s = some (.slice A m c) → R.eval x = some (.slice X mx cx) → isRow P (some t2) = true → evOp P E R H ⟨dst, .call { callee := .builtin .append, args := #[s, x], argTypes := #[t, t2] }, ty, pos, af, g⟩ = some (.slice (some ⟨b, 0, none⟩) (old ++ new).length OPEN, H1, [])) ∧
      My H H1 (some ⟨b, 0, none⟩) OPEN sz ((old ++ new).map f) ∧ Ext H H1 := by
  have hml : ∀ l : List α, ∀ q ∈ l.map f, q.length = sz := fun l q hq => by obtain ⟨a, _, rfl⟩ := List.mem_map.1 hq; exact hl a
  have hone : ∀ l : List α, (l.map f).flatten.all Value.oneCell' = true := fun l => by
    rw [List.all_eq_true]; intro v hv
    obtain ⟨q, hq, hv⟩ := List.mem_flatten.1 hv
    obtain ⟨a, _, rfl⟩ := List.mem_map.1 hq
    exact List.all_eq_true.1 (h1 a) v hv
  obtain ⟨b, H1, hev, hb0, hn, how, hf⟩ := mem_append_new (m := m) (mx := mx) (by rw [List.length_map]; exact hm) (by rw [List.length_map]; exact hmx) ht hz ho hX (by rw [List.length_map]; omega) hc (by rw [List.length_map, List.length_map]; omega) hA (hml _) (hml _) (hone _) (by rw [List.length_map, List.length_map]; exact hb) (by rw [List.length_map, List.length_map]; exact hb2)
  refine ⟨b, H1, fun _ _ _ _ _ _ _ _ _ _ h2 h3 h4 => by rw [List.length_append, hm, hmx]; exact hev _ _ _ _ _ _ _ _ _ _ h2 h3 h4, ?_, ⟨by omega, fun q hq => hf q (by omega)⟩⟩
  rw [List.map_append]
  exact my_make (by omega) how.lt how.blk how.len (.inl ⟨rfl, rfl⟩)
end Go.AM
