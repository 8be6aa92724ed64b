/- Part of a machine of its own for this claim: the program's code over memory without draws. -/
import Derived.Test.YtfodghhmglbapaaSAmPConf
set_option linter.unusedVariables false
set_option linter.unusedSimpArgs false
set_option linter.unnecessarySimpa false
/- The document's way of reading records comes to the same. -/
set_option linter.unusedSimpArgs false
namespace Go.AM
open Go
theorem sliceA_via {P : Program} {α : Type} (cells : α → List Value) {H H0 : Heap} {A A' : Option Addr} {c c' sz : Nat} {es L' : List α} {t : TypeId} (hs : elemIs P t sz = true) (hz : sz ≠ 0) (hc : es.length ≤ c) {lo hi : Option Value} {l h : Nat}
    (hh : (if hi.isSome then bound hi es.length es.length else some es.length) = some h) (hl : bound lo h 0 = some l) (hlh : l ≤ h) (hhn : h ≤ es.length)
    (hL : L' = (es.drop l).take (h - l)) (he : sliceA P H t (.slice A es.length c) lo hi none = some (.slice A' L'.length c')) (k : Row H0 A c sz (es.map cells)) : Row H0 A' c' sz (L'.map cells) := by
  obtain ⟨A1, c1, L1, h1, h2, h3, h4, _⟩ := sliceA_typed cells hs hz k hc hh hl hlh hhn
  rw [← hL] at h1
  subst h1
  unfold elemIs at hs
  split at hs
  · rename_i e hu
    simp only [sliceA, hu] at he h3
    split at he
    · split at h3
      · rw [he] at h3
        cases h3
        exact h4
      · cases h3
    · cases he
  · cases hs
theorem aw_join {P : Program} {E : TypeId → Bool} {α : Type} (S : α → Slots) (HS : α → Heap) (Inv : α → Prop) {n : Nat} {a b : Code} {l : Slots} {H : Heap} {Q : Ex → Regs → Heap → Prop} (hJ : ∀ x, Inv x → aw P E b (RL n (S x)) (HS x) Q)
    (ha : (∀ x, Inv x → aw P E b (RL n (S x)) (HS x) Q) → aw P E a (RL n l) H (Ex.then (fun r H => aw P E b r H Q) Q)) : aw P E (.seq a b) (RL n l) H Q := aw_seq (ha hJ)
end Go.AM
namespace Go.AM.Spec
theorem Bytes.set {l : List Int} (h : Bytes l) {i : Nat} {x : Int} (hx : 0 ≤ x ∧ x < 256) : Bytes (l.set i x) := fun y hy => by
  rcases List.mem_or_eq_of_mem_set hy with h1 | h1
  · exact h y h1
  · rw [h1]; exact hx
open Go Go.RowKit
end Go.AM.Spec
namespace Go.AM.Spec
open Go Go.RowKit
theorem ba_iff {a b : ByteArray} : a = b ↔ a.toList = b.toList := ⟨fun h => by rw [h], toList_inj⟩
section dec
variable {b body L rest L4 : List Int} {k n e t v i u q gk ge : Int} {ok : Bool} {s : ByteArray}
end dec
end Go.AM.Spec
