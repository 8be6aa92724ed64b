/- Part of a machine of its own for this claim: the program's code over memory without draws. -/
import Derived.Test.YtodcgppcmahbkabSAmRep16
import Derived.Test.YtodcgppcmahbkabSAmRep14
set_option linter.unusedVariables false
set_option linter.unusedSimpArgs false
set_option linter.unnecessarySimpa false
/- Rows of structs that hold a row each. -/
set_option linter.unusedSimpArgs false
namespace Go.AM
open Go
/-- How an element's own row is told. -/
structure Sub (α:Type) where
 sz:Nat
 A:α→Option Addr
 c:α→Nat
 rows:α→List (List Value)
/-- Each element's row is one's own since H0. -/
def Each {α:Type} (S:Sub α) (H0 H:Heap) (l:List α):Prop:=∀ e ∈ l,My H0 H (S.A e) (S.c e) S.sz (S.rows e)
variable {α : Type} {S : Sub α} {H0 H1 H H' : Heap} {l k : List α} {e : α}
theorem Each.nil : Each S H0 H []:=fun _ h=>by cases h
theorem Each.one (h:My H0 H (S.A e) (S.c e) S.sz (S.rows e)):Each S H0 H [e]:=fun x hx=>by rw[List.mem_singleton.1 hx];exact h
theorem Each.ext (h:Each S H0 H l) (x:Ext H H'):Each S H0 H' l:=fun e he=>(h e he).ext x
theorem Each.fr {W:Nat→Prop} (h:Each S H0 H l) (x:Fr W H H') (hw:∀ b,H0.next≤b→b<H.next→¬ W b):Each S H0 H' l:=fun e he=>(h e he).fr x hw
theorem Each.frS {W:Nat→Prop} (h:Each S H0 H l) (x:Fr W H H') (hw:∀ b,b<H.next→W b→∃ B,H.blk b=some B∧B.esz≠S.sz):Each S H0 H' l:=fun e he=>(h e he).frS x hw
theorem Each.older (h:Each S H0 H l) (hn:H1.next≤H0.next):Each S H1 H l:=fun e he=>(h e he).older hn
theorem Each.append (h:Each S H0 H l) (h2:Each S H0 H k):Each S H0 H (l++k):=fun e he=>(List.mem_append.1 he).elim (h e) (h2 e)
theorem Each.sub (h:Each S H0 H l) (hs:∀ e ∈ k,e ∈ l):Each S H0 H k:=fun e he=>h e (hs e he)
theorem Each.get {i:Nat} (h:Each S H0 H l) (hi:l[i]?=some e):My H0 H (S.A e) (S.c e) S.sz (S.rows e):=h e (List.mem_of_getElem? hi)
/-- Messages, as they lie. -/
structure MsgC where
 kind:Int
 from_:Int
 to_:Int
 term:Int
 index:Int
 logterm:Int
 commit:Int
 yes:Bool
 es:List Entry
 esA:Option Addr
 esc:Nat
 snap:Snap
def MsgC.cells (m:MsgC):List Value := [.int .i64 m.kind,.int .i64 m.from_,.int .i64 m.to_,.int .i64 m.term,.int .i64 m.index,.int .i64 m.logterm,.int .i64 m.commit,.bool m.yes,.slice m.esA m.es.length m.esc,.int .i64 m.snap.index,.int .i64 m.snap.term,.string m.snap.conf,.string m.snap.data]
theorem MsgC.cells_len (m:MsgC):m.cells.length=13:=rfl
theorem MsgC.cells_one (m:MsgC):m.cells.all Value.oneCell'=true:=rfl
def MsgC.sub : Sub MsgC:=⟨4,MsgC.esA,MsgC.esc,fun m=>m.es.map Entry.cells⟩
/-- A message. -/
structure Msg where
 kind:Int
 from_:Int
 to_:Int
 term:Int
 index:Int
 logterm:Int
 commit:Int
 yes:Bool
 es:List Entry
 snap:Snap
def MsgC.val (m:MsgC):Msg:=⟨m.kind,m.from_,m.to_,m.term,m.index,m.logterm,m.commit,m.yes,m.es,m.snap⟩
/-- Frames that were told. -/
structure Found where
 kind:Int
 body:List Int
 bodyA:Option Addr
 bodyc:Nat
def Found.cells (f:Found):List Value := [.int .i64 f.kind,.slice f.bodyA f.body.length f.bodyc]
theorem Found.cells_len (m:Found):m.cells.length=2:=rfl
theorem Found.cells_one (m:Found):m.cells.all Value.oneCell'=true:=rfl
def Found.sub : Sub Found:=⟨1,Found.bodyA,Found.bodyc,fun m=>m.body.map u8c⟩
def Found.val (f:Found):Int×List Int:=(f.kind,f.body)
end Go.AM
