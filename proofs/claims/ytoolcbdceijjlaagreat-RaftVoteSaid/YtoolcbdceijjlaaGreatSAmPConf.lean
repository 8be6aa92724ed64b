/- Part of a machine of its own for this claim: the program's code over memory without draws. -/
import Derived.Test.YtoolcbdceijjlaaGreatSAmRep14
set_option linter.unusedVariables false
set_option linter.unusedSimpArgs false
set_option linter.unnecessarySimpa false
/- Who belongs; which messages may be: in plain Lean. -/
set_option linter.unusedSimpArgs false
namespace Go.AM
open Go
variable {P : Program} {E : TypeId → Bool}
theorem ev_nilSlNe {H : Heap} {dst : Option Tmp} {t t2 e : TypeId} {x y : Operand} {ty : TypeId} {pos : String} {af : Array Edge} {g : Option (Nat × Bool)} {R : Regs} {a : Option Addr} {m c : Nat} (hx : R.eval x = some (.slice a m c)) (hy : R.eval y = some (.slice none 0 0)) (hu : P.underlying t = some (.slice e)) :
    evOp P E R H ⟨dst, .binOp .neq t x y t2, ty, pos, af, g⟩ = some (.bool (!a.isNone), H, []) := by
  cases a <;> simp [evOp, hx, hy, bin, eqA, hu, pureV]
def cutB (s : ByteArray) (n : Int) : ByteArray := if (s.size : Int) > n then s.extract 0 n.toNat else s
def Entry.cut (e : Entry) : Entry := { e with data := cutB e.data 60 }
namespace Spec
def upF : Int → List Int → Bool
  | _, [] => true
  | p, x :: l => if x < 1 ∨ x > 7 ∨ p ≥ x then false else upF x l
def mayC (l : List Int) : Bool := upF 0 l && decide ((l.length : Int) > 0)
def digits (s : ByteArray) : List Int := (bytesOf s).map fun n => n - 48
theorem digits_len (s : ByteArray) : (digits s).length = s.size := by rw [digits, List.length_map, bytesOf_length]
theorem digits_at {s : ByteArray} {i : Nat} {y : UInt8} (h : s.data.toList[i]? = some y) : (digits s)[i]? = some ((y.toNat : Int) - 48) := by simp only [digits, bytesOf, List.getElem?_map, h, Option.map_some]
def decC (s : ByteArray) : List Int × Bool := if mayC (digits s) = true then (digits s, true) else ([], false)
def entR (mt : Int) : Int → Int → List Entry → Bool
  | _, _, [] => true
  | ix, tm, e :: l => if e.index ≠ ix + 1 ∨ e.term < tm ∨ e.term > mt ∨ mayF false 0 0 e.index e.term e.kind e.data = false then false else entR mt e.index e.term l
def snap0 (si st : Int) (sc sd : ByteArray) : Bool := decide (si = 0 ∧ st = 0 ∧ sc = (⟨#[]⟩ : ByteArray) ∧ sd = (⟨#[]⟩ : ByteArray))
def mayMsg (kind from_ to_ term index logterm commit : Int) (yes : Bool) (es : List Entry) (si st : Int) (sc sd : ByteArray) : Bool :=
  decide ((1 ≤ kind ∧ kind ≤ 5) ∧ (1 ≤ from_ ∧ from_ ≤ 7) ∧ (1 ≤ to_ ∧ to_ ≤ 7) ∧ (1 ≤ term ∧ term ≤ 1099511627776) ∧ (0 ≤ index ∧ index ≤ 1099511627776) ∧ (0 ≤ logterm ∧ logterm ≤ 1099511627776) ∧ (0 ≤ commit ∧ commit ≤ 1099511627776)) &&
    ((entR term index logterm es && decide (es.length ≤ 8 ∧ (es.length = 0 ∨ kind = 3))) && (decide (yes = true → kind = 2 ∨ kind = 4) && (if kind = 5 then (decC sc).2 && mayS si st sc sd else snap0 si st sc sd)))
theorem mayH_eq {t v : Int} : mayF true t v 0 0 0 (⟨#[]⟩ : ByteArray) = decide ((0 ≤ t ∧ t ≤ 1099511627776) ∧ (0 ≤ v ∧ v ≤ 7)) := by
  rw [Bool.eq_iff_iff, decide_eq_true_eq]
  refine ⟨fun h => ⟨(may_hard h).1, (may_hard h).2.1⟩, fun h => ?_⟩
  simp only [mayF, if_true]
  rw [(inF_cons (l := [])).2 ⟨h.1, rfl⟩]
  have e : ((⟨#[]⟩ : ByteArray).toList == []) = true := by rw [ByteArray.toList_eq]; rfl
  simp [e]; omega
def Ints (l : List Int) : Prop := ∀ x ∈ l, -9223372036854775808 ≤ x ∧ x ≤ 9223372036854775807
theorem Ints.take {l : List Int} (h : Ints l) (n : Nat) : Ints (l.take n) := fun x hx => h x (List.mem_of_mem_take hx)
theorem Ints.drop {l : List Int} (h : Ints l) (n : Nat) : Ints (l.drop n) := fun x hx => h x (List.mem_of_mem_drop hx)
section
variable {kind from_ to_ term index logterm commit si st : Int} {yes : Bool} {es : List Entry} {sc sd : ByteArray}
theorem mayMsg_f1 (h : ¬ ((1 ≤ kind ∧ kind ≤ 5) ∧ (1 ≤ from_ ∧ from_ ≤ 7) ∧ (1 ≤ to_ ∧ to_ ≤ 7) ∧ (1 ≤ term ∧ term ≤ 1099511627776) ∧ (0 ≤ index ∧ index ≤ 1099511627776) ∧ (0 ≤ logterm ∧ logterm ≤ 1099511627776) ∧ (0 ≤ commit ∧ commit ≤ 1099511627776))) : mayMsg kind from_ to_ term index logterm commit yes es si st sc sd = false := by
  unfold mayMsg; rw [decide_eq_false h]; rfl
theorem mayMsg_f2 (h : (entR term index logterm es && decide (es.length ≤ 8 ∧ (es.length = 0 ∨ kind = 3))) = false) : mayMsg kind from_ to_ term index logterm commit yes es si st sc sd = false := by
  unfold mayMsg; rw [h, Bool.false_and, Bool.and_false]
theorem mayMsg_f3 (h : yes = true) (h2 : kind ≠ 2) (h4 : kind ≠ 4) : mayMsg kind from_ to_ term index logterm commit yes es si st sc sd = false := by
  unfold mayMsg; rw [decide_eq_false (p := yes = true → kind = 2 ∨ kind = 4) (fun q => by have := q h; omega), Bool.false_and, Bool.and_false, Bool.and_false]
theorem mayMsg_last (h : ((1 ≤ kind ∧ kind ≤ 5) ∧ (1 ≤ from_ ∧ from_ ≤ 7) ∧ (1 ≤ to_ ∧ to_ ≤ 7) ∧ (1 ≤ term ∧ term ≤ 1099511627776) ∧ (0 ≤ index ∧ index ≤ 1099511627776) ∧ (0 ≤ logterm ∧ logterm ≤ 1099511627776) ∧ (0 ≤ commit ∧ commit ≤ 1099511627776))) (he : (entR term index logterm es && decide (es.length ≤ 8 ∧ (es.length = 0 ∨ kind = 3))) = true) (hy : yes = true → kind = 2 ∨ kind = 4) :
    mayMsg kind from_ to_ term index logterm commit yes es si st sc sd = (if kind = 5 then (decC sc).2 && mayS si st sc sd else snap0 si st sc sd) := by
  unfold mayMsg; rw [decide_eq_true h, he, decide_eq_true hy]; rfl
theorem nil_iff {A : Option Addr} {b : Bool} (h : A = none ↔ b = false) : (!A.isNone) = b := by
  cases A with
  | none => rw [h.1 rfl]; rfl
  | some a => cases b with
    | true => rfl
    | false => cases h.2 rfl
theorem snap0_iff {q : Bool} (h : q = true ↔ si = 0 ∧ st = 0 ∧ sc = (⟨#[]⟩ : ByteArray) ∧ sd = (⟨#[]⟩ : ByteArray)) : snap0 si st sc sd = q := by
  rw [Bool.eq_iff_iff, h]; simp [snap0]
end
end Spec
end Go.AM
