/- Part of a machine of its own for this claim: the program's code over memory without draws. -/
import Derived.Test.YtodcgppcmahbkabSAmPCf2
set_option linter.unusedVariables false
set_option linter.unusedSimpArgs false
set_option linter.unnecessarySimpa false
/- An append touches the row's own block alone. -/
set_option linter.unusedSimpArgs false
set_option linter.unusedVariables false
namespace Go.AM
open Go
variable {P : Program} {E : TypeId → Bool}
variable {H H' : Heap} {A X : Option Addr} {c cx sz n k m i : Nat} {rows : List (List Value)} {r : List Value} {v : Value} {t : TypeId} {x y : Operand} {R : Regs} {dst : Option Tmp} {ty : TypeId} {pos : String} {af : Array Edge} {g : Option (Nat × Bool)}
/-- A row of one's own outlives what touches other blocks. -/
theorem My.frB {H0:Heap} {W:Nat→Prop} (h:My H0 H A c sz rows) (k:Fr W H H') (hw:∀ a,A=some a→¬ W a.block):My H0 H' A c sz rows :=
 h.imp id fun⟨b,o,cs,opn,h1,h2,h3,h4,h5⟩=>⟨b,o,cs,opn,h1,h2,Nat.lt_of_lt_of_le h3 k.1,(k.2 b h3 (hw _ h1)).trans h4,h5⟩
/-- Two places are in blocks apart. -/
def Apart (A B:Option Addr):Prop:=∀ a b,A=some a→B=some b→a.block≠b.block
theorem Apart.symm {A B:Option Addr} (h:Apart A B):Apart B A:=fun a b h1 h2 e=>h b a h2 h1 e.symm
theorem Apart.none {B:Option Addr}:Apart none B:=fun _ _ h=>nomatch h
/-- After an append the row is where it was, or in a fresh block. -/
theorem Apart.append {H0:Heap} {A A1 B:Option Addr} (h:Apart A B) (hB:My H0 H B c sz rows) (hn:B=Option.none∨rows ≠ []∨∀ b,B=some b→b.block<H.next) (hA:∀ a1,A1=some a1→(∃ a,A=some a∧a1.block=a.block)∨H.next≤a1.block):Apart A1 B:=fun a1 b h1 h2 e=>by
 rcases hA a1 h1 with⟨a,h3,h4⟩ | h3
 · exact h a b h3 h2 (h4.symm.trans e)
 ·
  have hb:b.block<H.next:=by
   rcases hn with hn | hn | hn
   · rw[hn] at h2;cases h2
   ·
    rcases hB with⟨h5,_⟩ | ⟨b',o',cs,opn,h5,_,h6,_⟩
    · exact absurd h5 hn
    · rw[h5] at h2;cases h2;exact h6
   · exact hn b h2
  omega
theorem Fr.mono {W W':Nat→Prop} (k:Fr W H H') (h:∀ q,W q→W' q):Fr W' H H':=⟨k.1,fun b hb hw=>k.2 b hb fun q=>hw (h b q)⟩
end Go.AM
