/- Part of a machine of its own for this claim: the program's code over memory without draws. -/
import Derived.Calls
import Derived.Orders
import Derived.Tactics
import Derived.Laws.Entries
import Derived.Laws.World
import Derived.Laws.Cells
import Derived.MapKept
import Derived.Laws.Tables
import Derived.Laws.CopyRow
import Derived.Laws.Append
import Derived.Laws.Sem
import Derived.Laws.Strings
import Derived.Laws.Slices
import Derived.Lib.ConvBytes
import Derived.Laws.MakeOwn
import Derived.Great.BuildSlice
set_option linter.unusedVariables false
set_option linter.unusedSimpArgs false
set_option linter.unnecessarySimpa false
/- A machine of its own: the program's code run over memory whose blocks are numbered as they come, without draws and without capacities; and what it says of the given machine. No program in sight. -/
namespace Go.AM
open Go

/-- Where a block of ours lies in the given machine: its block, from where on, the cells of one element, how many cells are its own (with the room behind). -/
structure Loc where
 blk:Nat
 off:Nat
 esz:Nat
 ext:Nat
abbrev Map := Nat→Option Loc
def Map.le (ι ι':Map):Prop:=∀ b L,ι b=some L→ι' b=some L
theorem Map.le.refl (ι:Map):ι.le ι:=fun _ _ h=>h
theorem Map.le.trans {ι ι' ι'':Map} (h:ι.le ι') (h':ι'.le ι''):ι.le ι'':=fun b L x=>h' b L (h b L x)
/-- A slice's capacity that is told as this or more is not known: it ends where its block's room ends. -/
def OPEN : Nat:=18446744073709551616

/-- An address of ours, and the given machine's. -/
def AR (ι:Map) (a a':Addr):Prop:=a.spot=none∧∃ L,ι a.block=some L∧a'=⟨L.blk,L.off+a.off,none⟩
/-- A slice's place. -/
def SR (ι:Map) (a:Addr) (n c:Nat) (a':Addr) (c':Nat):Prop :=
 a.spot=none∧n≤c'∧(c<OPEN→c'=c)∧∃ L,ι a.block=some L∧(c'≠0→a'=⟨L.blk,L.off+a.off,none⟩)∧(OPEN≤c→a.off+c' * L.esz=L.ext)
inductive VR (ι:Map):Value→Value→Prop
 | bool (b:Bool):VR ι (.bool b) (.bool b)
 | int (k:IntKind) (n:Int):VR ι (.int k n) (.int k n)
 | string (s:ByteArray):VR ι (.string s) (.string s)
 | nilptr:VR ι (.pointer none) (.pointer none)
 | ptr {a a':Addr} (h:AR ι a a'):VR ι (.pointer (some a)) (.pointer (some a'))
 | nilsl:VR ι (.slice none 0 0) (.slice none 0 0)
 | sl {a a':Addr} {n c c':Nat} (h:SR ι a n c a' c'):VR ι (.slice (some a) n c) (.slice (some a') n c')
 | nilFunc:VR ι .nilFunc .nilFunc
 | func (fn:Fn) {xs ys:Array Value} (hn:xs.size=ys.size) (h:∀ (i:Nat) (x y:Value),xs[i]?=some x→ys[i]?=some y→VR ι x y):VR ι (.func fn #[] xs) (.func fn #[] ys)
 | nilIface:VR ι .nilIface .nilIface
 | agg {xs ys:Array Value} (hn:xs.size=ys.size) (h:∀ (i:Nat) (x y:Value),xs[i]?=some x→ys[i]?=some y→VR ι x y):VR ι (.agg xs) (.agg ys)
 | tuple {xs ys:Array Value} (hn:xs.size=ys.size) (h:∀ (i:Nat) (x y:Value),xs[i]?=some x→ys[i]?=some y→VR ι x y):VR ι (.tuple xs) (.tuple ys)
 | nilmap:VR ι (.map none) (.map none)
 | map {b:Nat} {L:Loc} (h:ι b=some L):VR ι (.map (some b)) (.map (some L.blk))
theorem VR.mono {ι ι':Map} (hl:ι.le ι') {v v':Value} (h:VR ι v v'):VR ι' v v':=by
 induction h with
 | bool b=>exact .bool b
 | int k n=>exact .int k n
 | string s=>exact .string s
 | nilptr=>exact .nilptr
 | ptr h=>obtain⟨h1,L,h2,h3⟩:=h;exact .ptr ⟨h1,L,hl _ _ h2,h3⟩
 | nilsl=>exact .nilsl
 | sl h=>obtain⟨h1,h2,h3,L,h4,h5⟩:=h;exact .sl ⟨h1,h2,h3,L,hl _ _ h4,h5⟩
 | nilFunc=>exact .nilFunc
 | func fn hn _ ih=>exact .func fn hn ih
 | nilIface=>exact .nilIface
 | agg hn _ ih=>exact .agg hn ih
 | tuple hn _ ih=>exact .tuple hn ih
 | nilmap=>exact .nilmap
 | map h=>exact .map (hl _ _ h)
/-- Rows of values. -/
def AsR (ι:Map) (xs ys:Array Value):Prop:=xs.size=ys.size∧∀ (i:Nat) (x y:Value),xs[i]?=some x→ys[i]?=some y→VR ι x y
theorem AsR.mono {ι ι':Map} (hl:ι.le ι') {xs ys:Array Value} (h:AsR ι xs ys):AsR ι' xs ys:=⟨h.1,fun i x y a b=>(h.2 i x y a b).mono hl⟩
theorem AsR.get {ι:Map} {xs ys:Array Value} (h:AsR ι xs ys) {i:Nat} {x:Value} (hx:xs[i]?=some x):∃ y,ys[i]?=some y∧VR ι x y:=by
 have hi:i<xs.size:=by
  rcases Nat.lt_or_ge i xs.size with h | h
  · exact h
  · rw[Array.getElem?_eq_none h] at hx;cases hx
 have hj:i<ys.size:=h.1 ▸ hi
 exact⟨ys[i],Array.getElem?_eq_getElem hj,h.2 i _ _ hx (Array.getElem?_eq_getElem hj)⟩
theorem VR.cells {ι:Map} {v v':Value} (h:VR ι v v'):AsR ι v.cells v'.cells:=by
 have one:∀ {x y:Value},VR ι x y→AsR ι #[x] #[y]:=fun {x y} h=>⟨rfl,fun i a b ha hb=>by
  have hi:i=0:=by
   rcases Nat.lt_or_ge i 1 with h | h
   · omega
   · rw[Array.getElem?_eq_none (by simpa using h)] at ha;cases ha
  subst hi
  simp at ha hb
  subst ha hb
  exact h⟩
 cases h with
 | agg hn h=>exact⟨hn,h⟩
 | bool b=>exact one (.bool b)
 | int k n=>exact one (.int k n)
 | string s=>exact one (.string s)
 | nilptr=>exact one .nilptr
 | ptr h=>exact one (.ptr h)
 | nilsl=>exact one .nilsl
 | sl h=>exact one (.sl h)
 | nilFunc=>exact one .nilFunc
 | func fn hn h=>exact one (.func fn hn h)
 | nilIface=>exact one .nilIface
 | tuple hn h=>exact one (.tuple hn h)
 | nilmap=>exact one .nilmap
 | map h=>exact one (.map h)

/-- A block of ours: its cells, the cells of one element, whether it is only read, whether there is room behind it that nobody else has. -/
structure Blk where
 cells:List Value
 esz:Nat
 rd:Bool
 opn:Bool
/-- An open block without element size is a map: its cells are a key, what it holds, the next key, .. -/
def Blk.isMap (B:Blk):Bool:=B.opn && B.esz == 0
theorem Blk.notMap {B:Blk} (h:B.esz≠0):B.isMap=false:=by simp [Blk.isMap,h]
theorem Blk.notMapS {cs:List Value} {sz:Nat} {rd opn:Bool} (h:sz≠0):(Blk.mk cs sz rd opn).isMap=false:=Blk.notMap h
structure Heap where
 next:Nat
 blk:Nat→Option Blk
/-- A map's cells, and its entries: keys are texts. -/
def EsR (ι:Map):List Value→List MapEntry→Prop
 | [],[]=>True
 | k :: v :: r,e :: es=>(∃ s:ByteArray,s.size≤140737488355328∧k = .string s)∧e.key=k∧VR ι v e.val∧EsR ι r es
 | _,_=>False
theorem EsR.mono {ι ι':Map} (hl:ι.le ι'):∀ {l:List Value} {es:List MapEntry},EsR ι l es→EsR ι' l es
 | [],[],_=>trivial
 | [],_ :: _,h=>h.elim
 | [_],_,h=>h.elim
 | _ :: _ :: _,[],h=>h.elim
 | _ :: _ :: _,_ :: _,h=>⟨h.1,h.2.1,h.2.2.1.mono hl,EsR.mono hl h.2.2.2⟩
/-- A map of ours, and the given machine's. -/
def MapO (ι:Map) (w:World) (cells:List Value) (b:Nat):Prop :=
 ∃ (es:Array MapEntry) (clock:Nat),w.heap[b]?=some (.map es clock)∧EsR ι cells es.toList∧MapKept.Stamped es clock
/-- One block, and the given machine's. -/
structure BR (ι:Map) (w:World) (B:Blk) (L:Loc):Prop where
 esz:L.esz=B.esz
 off:B.rd=false→B.esz=0→L.off=0
 len:B.isMap=false→B.cells.length≤L.ext
 shut:B.rd=false→B.opn=false→L.ext=B.cells.length
 mapo:B.isMap=true→B.rd=false∧MapO ι w B.cells L.blk
 obj:B.isMap=false→∃ (C:Array Value) (el:TypeId) (lo hi:Nat),w.heap[L.blk]?=some (.cells C el (lo,hi))∧L.off+B.cells.length≤C.size ∧
  (∀ (i:Nat) (v:Value),B.cells[i]?=some v→∃ v',C[L.off+i]?=some v'∧VR ι v v') ∧
  (B.rd=false→L.off+L.ext≤C.size∧(lo=hi∨C.size≤lo))
/-- Our memory, and the given machine's. -/
structure R (ι:Map) (H:Heap) (w:World):Prop where
 dom:∀ b L,ι b=some L→b<H.next
 live:∀ b B,H.blk b=some B→∃ L,ι b=some L∧BR ι w B L
 apart:∀ b b' B B' L L',b≠b'→H.blk b=some B→H.blk b'=some B'→ι b=some L→ι b'=some L'→B.rd=false→L.blk≠L'.blk
/-- The given machine's blocks that are ours to write. -/
def Tgt (ι:Map) (H:Heap) (c:Nat):Prop:=∃ b B L,H.blk b=some B∧ι b=some L∧B.rd=false∧L.blk=c
/-- A step. -/
structure Step (ι:Map) (H:Heap) (w:World) (ι':Map) (H':Heap) (w':World):Prop where
 le:ι.le ι'
 next:H.next≤H'.next
 os:w'.os=w.os
 tape:w'.tape=w.tape
 output:w'.output=w.output
 size:w.heap.size≤w'.heap.size
 frame:∀ c,c<w.heap.size→¬ Tgt ι H c→w'.heap[c]?=w.heap[c]?
 own:∀ c,Tgt ι' H' c→Tgt ι H c∨w.heap.size≤c
 ro:∀ b B,H'.blk b=some B→B.rd=true→H.blk b=some B
 grow:∀ b L,ι' b=some L→ι b=some L∨H.next≤b
theorem Step.refl (ι:Map) (H:Heap) (w:World):Step ι H w ι H w:=⟨Map.le.refl ι,Nat.le_refl _,rfl,rfl,rfl,Nat.le_refl _,fun _ _ _=>rfl,fun _ h => .inl h,fun _ _ h _=>h,fun _ _ h => .inl h⟩
theorem Step.trans {ι ι' ι'':Map} {H H' H'':Heap} {w w' w'':World} (h:Step ι H w ι' H' w') (k:Step ι' H' w' ι'' H'' w''):Step ι H w ι'' H'' w'' where
 le:=h.le.trans k.le
 next:=Nat.le_trans h.next k.next
 os:=k.os.trans h.os
 tape:=k.tape.trans h.tape
 output:=k.output.trans h.output
 size:=Nat.le_trans h.size k.size
 frame:=fun c hc ht=>(k.frame c (Nat.lt_of_lt_of_le hc h.size) (fun q=>(h.own c q).elim ht (fun x=>by omega))).trans (h.frame c hc ht)
 own:=fun c q=>(k.own c q).elim (fun x=>h.own c x) (fun x => .inr (Nat.le_trans h.size x))
 ro:=fun b B q r=>h.ro b B (k.ro b B q r) r
 grow:=fun b L q=>(k.grow b L q).elim (fun x=>h.grow b L x) (fun x => .inr (Nat.le_trans h.next x))
theorem BR.mono {ι ι':Map} (hl:ι.le ι') {w w':World} {B:Blk} {L:Loc} (h:BR ι w B L) (hw:w'.heap[L.blk]?=w.heap[L.blk]?):BR ι' w' B L:=by
 refine⟨h.esz,h.off,h.len,h.shut,fun hm=>?_,fun hm=>?_⟩
 ·
  obtain⟨h0,es,clock,h1,h2,h3⟩:=h.mapo hm
  exact⟨h0,es,clock,hw.trans h1,h2.mono hl,h3⟩
 ·
  obtain⟨C,el,lo,hi,h1,h2,h3,h4⟩:=h.obj hm
  refine⟨C,el,lo,hi,hw.trans h1,h2,fun i v hv=>?_,h4⟩
  obtain⟨v',a,b⟩:=h3 i v hv
  exact⟨v',a,b.mono hl⟩
theorem BR.lt {ι:Map} {w:World} {B:Blk} {L:Loc} (h:BR ι w B L):L.blk<w.heap.size:=by
 cases hm:B.isMap with
 | true =>
  obtain⟨_,es,clock,h1,_⟩:=h.mapo hm
  exact(Array.getElem?_eq_some_iff.1 h1).1
 | false =>
  obtain⟨C,_,_,_,h1,_⟩:=h.obj hm
  exact(Array.getElem?_eq_some_iff.1 h1).1
end Go.AM

/- Reading, writing, making: in our memory and in the given machine's. -/
namespace Go.AM
open Go

def Heap.cells (H:Heap) (a:Addr) (n:Nat):Option (List Value) :=
 match H.blk a.block with
 | some B=>if B.isMap=false∧a.off+n≤B.cells.length then some ((B.cells.drop a.off).take n) else none
 | none=>none
def Heap.set (H:Heap) (b:Nat) (B:Option Blk):Heap:={ H with blk:=fun k=>if k=b then B else H.blk k }
def Heap.put (H:Heap) (a:Addr) (vs:List Value):Option Heap :=
 match H.blk a.block with
 | some B=>if B.isMap=false∧B.rd=false∧a.off+vs.length≤B.cells.length∧vs.all Value.oneCell'=true then
   some (H.set a.block (some { B with cells:=B.cells.take a.off++vs++B.cells.drop (a.off+vs.length) })) else none
 | none=>none
def Heap.make (H:Heap) (B:Blk):Heap:={ next:=H.next+1,blk:=fun k=>if k=H.next then some B else H.blk k }

theorem add_plain (a:Addr) (h:a.spot=none) (n:Nat):a.add n=⟨a.block,a.off+n,none⟩:=by
 unfold Addr.add
 split
 · subst n;cases a;simp_all
 · cases a;simp_all
theorem AR.add {ι:Map} {a a':Addr} (h:AR ι a a') (n:Nat):AR ι (a.add n) (a'.add n):=by
 obtain⟨h1,L,h2,rfl⟩:=h
 rw[add_plain _ h1,add_plain _ rfl]
 exact⟨rfl,L,h2,by simp [Nat.add_assoc]⟩
variable {P : Program}
/-- Cells of ours are there in the given machine. -/
theorem R.cell {ι:Map} {H:Heap} {w:World} (h:R ι H w) {a a':Addr} (ha:AR ι a a') {B:Blk} (hB:H.blk a.block=some B) {v:Value} (hm:B.isMap=false) (hv:B.cells[a.off]?=some v):∃ v',w.cell? a'=some v'∧VR ι v v':=by
 obtain⟨_,L,hL,rfl⟩:=ha
 obtain⟨L',hL',hb⟩:=h.live _ _ hB
 rw[hL] at hL'
 cases hL'
 obtain⟨C,el,lo,hi,h1,h2,h3,h4⟩:=hb.obj hm
 obtain⟨v',a,b⟩:=h3 _ _ hv
 exact⟨v',by simp [World.cell?,h1,a],b⟩
theorem cells_load {ι:Map} {H:Heap} {w:World} (h:R ι H w) {a a':Addr} (ha:AR ι a a') {n:Nat} {l:List Value} (hl:H.cells a n=some l) :
  ∃ l':List Value,l'.length=n∧l.length=n∧(loadCells a' n).run P w = .ok l'.toArray w∧AsR ι l.toArray l'.toArray∧∀ j v,l'[j]?=some v→w.cell? (a'.add j)=some v:=by
 unfold Heap.cells at hl
 cases hB:H.blk a.block with
 | none=>rw[hB] at hl;cases hl
 | some B =>
  rw[hB] at hl
  simp only at hl
  split at hl
  ·
   rename_i hn
   obtain⟨hmp,hn⟩:=hn
   obtain rfl:=Option.some.inj hl
   have hlen:((B.cells.drop a.off).take n).length=n:=by rw[List.length_take,List.length_drop];omega
   have hget:∀ j,j<n→∃ v v',((B.cells.drop a.off).take n)[j]?=some v∧w.cell? (a'.add j)=some v'∧VR ι v v':=by
    intro j hj
    have hv:∃ v,B.cells[a.off+j]?=some v:=⟨_,List.getElem?_eq_getElem (by omega)⟩
    obtain⟨v,hv⟩:=hv
    have hv2:B.cells[(a.add j).off]?=some v:=by rw[add_plain _ ha.1];exact hv
    have hB2:H.blk (a.add j).block=some B:=by rw[add_plain _ ha.1];exact hB
    obtain⟨v',h1,h2⟩:=h.cell (ha.add j) hB2 hmp hv2
    refine⟨v,v',?_,h1,h2⟩
    rw[List.getElem?_take,if_pos hj,List.getElem?_drop]
    exact hv
   refine⟨(List.range n).map fun j=>(w.cell? (a'.add j)).getD undef,by simp,hlen,?_,⟨by simp [hlen],?_⟩,?_⟩
   ·
    refine run_loadCells w a' n _ (fun j hj=>?_)
    obtain⟨v,v',h1,h2,h3⟩:=hget j hj
    rw[h2];rfl
   ·
    intro i x y hx hy
    have hi:i<n:=by
     rcases Nat.lt_or_ge i n with hi | hi
     · exact hi
     · rw[List.getElem?_toArray,List.getElem?_eq_none (by omega)] at hx;cases hx
    obtain⟨v,v',h1,h2,h3⟩:=hget i hi
    rw[List.getElem?_toArray,h1] at hx
    rw[List.getElem?_toArray,List.getElem?_map,List.getElem?_range hi] at hy
    simp [h2] at hy
    cases hx
    subst hy
    exact h3
   ·
    intro j v hv
    have hj:j<n:=by
     rcases Nat.lt_or_ge j n with hi | hi
     · exact hi
     · rw[List.getElem?_eq_none (by simp;omega)] at hv;cases hv
    obtain⟨v0,v',h1,h2,h3⟩:=hget j hj
    rw[List.getElem?_map,List.getElem?_range hj] at hv
    simp [h2] at hv
    rw[h2,hv]
  · cases hl
/-- Storing cells in a row whose frozen range lies elsewhere. -/
theorem run_storeCells_free (g o:Nat) (t:TypeId) (fz:Nat×Nat):∀ (vs:List Value) (i:Nat) (cur:Array Value) (w:World),w.heap[g]?=some (.cells cur t fz)→(∀ k,o+i≤k→k<o+i+vs.length→¬(fz.1≤k∧k<fz.2))→o+i+vs.length≤cur.size→(∀ v ∈ vs,v.oneCell'=true) →
  (storeCells ⟨g,o,none⟩ vs i).run P w = .ok () (w.setRow g (cur.toList.take (o+i)++vs++cur.toList.drop (o+i+vs.length)).toArray)
 | [],i,cur,w,hg,_,_,_=>by
  simp only [storeCells,List.append_nil,List.length_nil,Nat.add_zero,List.take_append_drop,Array.toArray_toList]
  rw[setRow_self w g cur t fz hg]
  rfl
 | v :: rest,i,cur,w,hg,hfz,hl,h1=>by
  have hi:o+i<cur.size:=by simp at hl;omega
  have hadd:(⟨g,o,none⟩:Addr).add i=⟨g,o+i,none⟩:=by unfold Addr.add;split <;> simp_all
  have hcell:w.cell? ⟨g,o+i,none⟩=some cur[o+i]:=by simp [World.cell?,hg,hi]
  have hfro:w.frozen? ⟨g,o+i,none⟩=false:=by
   have:=hfz (o+i) (Nat.le_refl _) (by simp)
   obtain⟨lo,hi'⟩:=fz
   simp only [World.frozen?,hg,Bool.and_eq_false_iff,decide_eq_false_iff_not]
   simp only at this
   omega
  have hst:(store ((⟨g,o,none⟩:Addr).add i) v).run P w = .ok () (w.setRow g (cur.setIfInBounds (o+i) v)):=by
   rw[hadd,run_store P w _ v _ (h1 v (by simp)),hcell]
   simp [hfro,setCell_eq_setRow w g (o+i) cur t fz v hg]
  have ih:=run_storeCells_free g o t fz rest (i+1) (cur.setIfInBounds (o+i) v) (w.setRow g (cur.setIfInBounds (o+i) v)) (setRow_heap w g cur _ t _ hg) (fun k hk hk2=>hfz k (by omega) (by simp only [List.length_cons];omega)) (by simp at hl ⊢;omega) (fun x hx=>h1 x (by simp [hx]))
  simp only [storeCells,Sem.run_bind,hst,Result.andThen_ok,ih,setRow_setRow]
  congr 3
  have e:=list_seg_step cur.toList (o+i) v rest (by simp at hl ⊢;omega)
  simpa [Array.toList_setIfInBounds,Nat.add_assoc] using e
theorem VR.oneCell {ι:Map} {v v':Value} (h:VR ι v v'):v'.oneCell'=v.oneCell':=by cases h <;> rfl
theorem put_store {ι:Map} {H H':Heap} {w:World} (h:R ι H w) {a a':Addr} (ha:AR ι a a') {vs vs':List Value} (hp:H.put a vs=some H') (hv:AsR ι vs.toArray vs'.toArray) :
  ∃ w',(storeCells a' vs').run P w = .ok () w'∧R ι H' w'∧Step ι H w ι H' w':=by
 unfold Heap.put at hp
 cases hB:H.blk a.block with
 | none=>rw[hB] at hp;cases hp
 | some B =>
  rw[hB] at hp
  simp only at hp
  split at hp
  ·
   rename_i hc
   obtain⟨hmp,hrd,hlen,hone⟩:=hc
   obtain rfl:=Option.some.inj hp
   obtain⟨hspot,L,hL,rfl⟩:=ha
   obtain⟨L',hL',hb⟩:=h.live _ _ hB
   rw[hL] at hL'
   cases hL'
   obtain⟨C,el,lo,hi,h1,h2,h3,h4⟩:=hb.obj hmp
   obtain⟨h5,h6⟩:=h4 hrd
   have hsz:vs'.length=vs.length:=by have:=hv.1;simpa using this.symm
   have hone':∀ v ∈ vs',v.oneCell'=true:=by
    intro v hv'
    obtain⟨i,hi,rfl⟩:=List.getElem_of_mem hv'
    have hx:vs.toArray[i]?=some vs[i]:=by simp [List.getElem?_eq_getElem (show i<vs.length by omega)]
    have hy:vs'.toArray[i]?=some vs'[i]:=by simp [List.getElem?_eq_getElem hi]
    rw[(hv.2 i _ _ hx hy).oneCell]
    exact List.all_eq_true.1 hone _ (List.getElem_mem _)
   have hbl:=hb.len hmp
   have hrun:=run_storeCells_free (P:=P) L.blk (L.off+a.off) el (lo,hi) vs' 0 C w h1 (fun k hk1 hk2 hh=>by rcases h6 with h6 | h6 <;> (simp only at hh;omega)) (by omega) hone'
   rw[Nat.add_zero] at hrun
   refine⟨_,hrun,?_,?_⟩
   ·
    constructor
    · exact h.dom
    ·
     intro b B' hb'
     simp only [Heap.set] at hb'
     split at hb'
     ·
      rename_i e
      subst e
      obtain rfl:=Option.some.inj hb'
      refine⟨L,hL,⟨hb.esz,hb.off,fun _=>?_,?_,fun hm=>absurd (hmp.symm.trans hm) (by decide),fun _=>?_⟩⟩
      · simp only [List.length_append,List.length_take,List.length_drop];omega
      ·
       intro h7 h8
       have:=hb.shut h7 h8
       simp only [List.length_append,List.length_take,List.length_drop];omega
      ·
       refine⟨_,el,lo,hi,setRow_heap w L.blk C _ el (lo,hi) h1,?_,?_,?_⟩
       · simp only [List.length_append,List.length_take,List.length_drop,List.size_toArray,Array.length_toList];omega
       ·
        intro i v hi'
        have hcs:C.toList.length=C.size:=Array.length_toList
        simp only [List.getElem?_append,List.length_append,List.length_take] at hi'
        rw[List.getElem?_toArray]
        simp only [List.getElem?_append,List.length_append,List.length_take]
        by_cases c1:i<a.off
        ·
         rw[if_pos (by omega),if_pos (by omega),List.getElem?_take,if_pos c1] at hi'
         rw[if_pos (by omega),if_pos (by omega),List.getElem?_take,if_pos (by omega)]
         obtain⟨v',p,q⟩:=h3 i v hi'
         exact⟨v',by rw[Array.getElem?_toList];exact p,q⟩
        ·
         by_cases c2:i<a.off+vs.length
         ·
          rw[if_pos (by omega),if_neg (by omega)] at hi'
          rw[if_pos (by omega),if_neg (by omega)]
          have e1:min a.off B.cells.length=a.off:=by omega
          have e2:L.off+i - min (L.off+a.off) C.toList.length=i - a.off:=by omega
          rw[e1] at hi'
          rw[e2]
          obtain⟨y,p,q⟩:=hv.get (i:=i - a.off) (x:=v) (by rw[List.getElem?_toArray];exact hi')
          exact⟨y,by rw[List.getElem?_toArray] at p;exact p,q⟩
         ·
          rw[if_neg (by omega),List.getElem?_drop] at hi'
          rw[if_neg (by omega),List.getElem?_drop]
          have e1:a.off+vs.length+(i - (min a.off B.cells.length+vs.length))=i:=by omega
          have e2:L.off+a.off+vs'.length+(L.off+i - (min (L.off+a.off) C.toList.length+vs'.length))=L.off+i:=by omega
          rw[e1] at hi'
          rw[e2]
          obtain⟨v',p,q⟩:=h3 i v hi'
          exact⟨v',by rw[Array.getElem?_toList];exact p,q⟩
       ·
        intro _
        have hsz9:(List.take (L.off+a.off) C.toList++vs'++List.drop (L.off+a.off+vs'.length) C.toList).toArray.size=C.size:=by
         simp only [List.length_append,List.length_take,List.length_drop,List.size_toArray,Array.length_toList];omega
        rw[hsz9]
        exact⟨h5,h6⟩
     ·
      rename_i e
      obtain⟨L2,hL2,hb2⟩:=h.live b B' hb'
      refine⟨L2,hL2,hb2.mono (Map.le.refl ι) (setRow_other w L.blk L2.blk _ ?_)⟩
      exact fun e2=>h.apart a.block b B B' L L2 (fun x=>e x.symm) hB hb' hL hL2 hrd e2.symm
    ·
     intro b b' B1 B2 L1 L2 hne hb1 hb2 hl1 hl2 hr
     simp only [Heap.set] at hb1 hb2
     split at hb1
     ·
      rename_i e1
      split at hb2
      · rename_i e2;exact absurd (e1.trans e2.symm) hne
      ·
       subst e1
       exact h.apart _ b' B B2 L1 L2 hne hB hb2 hl1 hl2 hrd
     ·
      split at hb2
      ·
       rename_i e1 e2
       subst e2
       exact h.apart b _ B1 B L1 L2 hne hb1 hB hl1 hl2 hr
      · exact h.apart b b' B1 B2 L1 L2 hne hb1 hb2 hl1 hl2 hr
   ·
    refine⟨Map.le.refl ι,Nat.le_refl _,rfl,rfl,rfl,by simp [World.setRow],fun c hc ht=>?_,fun c hc => .inl ?_,fun b B' hb hr=>?_,fun _ _ h => .inl h⟩
    · exact setRow_other w L.blk c _ (fun e=>ht ⟨a.block,B,L,hB,hL,hrd,e.symm⟩)
    ·
     obtain⟨b,B',L',p,q,r,s⟩:=hc
     simp only [Heap.set] at p
     split at p
     ·
      rename_i e
      subst e
      exact⟨a.block,B,L',hB,q,hrd,s⟩
     · exact⟨b,B',L',p,q,r,s⟩
    ·
     simp only [Heap.set] at hb
     split at hb
     ·
      cases hb
      simp only at hr
      rw[hrd] at hr
      cases hr
     · exact hb
  · cases hp
end Go.AM

/- The operations: what they do in our memory. -/
namespace Go.AM
open Go

/-- What a step gives: a value, the memory, the blocks that it wrote or took away. -/
abbrev Eff := Value×Heap×List Nat
structure Regs where
 n:Nat
 f:Nat→Option Value
def Regs.put (r:Regs) (d:Option Tmp) (v:Value):Regs :=
 match d with
 | none=>r
 | some d=>{ r with f:=fun t=>if t=d then some v else r.f t }
/-- Values without addresses. -/
def flat : Value→Bool
 | .bool _ | .int _ _ | .string _ | .pointer none | .slice none 0 0 | .nilFunc | .nilIface | .map none=>true
 | _=>false
def Regs.eval (r:Regs):Operand→Option Value
 | .tmp t=>r.f t
 | .const v=>if flat v then some v else none
 | .global _=>none
 | .func f=>some (.func (.func f) #[] #[])
def isAggB : TypeDesc→Bool
 | .struct _ | .array _ _=>true
 | _=>false
def lvar (P:Program) (H:Heap) (t:TypeId) (a:Addr):Option Value :=
 match P.underlying t,P.info? t with
 | some d,some i=>if isAggB d then(H.cells a i.size).map fun l => .agg l.toArray else(H.cells a 1).bind fun l=>l.head?
 | _,_=>none
def svar (P:Program) (H:Heap) (t:TypeId) (a:Addr) (v:Value):Option Heap :=
 match P.info? t with
 | some i=>if v.cells.size=i.size then H.put a v.cells.toList else none
 | none=>none
def mk (H:Heap) (B:Blk):Option Eff:=some (.pointer (some ⟨H.next,0,none⟩),H.make B,[])
/-- A new variable. -/
def newv (H:Heap) (v:Value):Option Eff:=if v.cells.toList.all Value.oneCell' then mk H ⟨v.cells.toList,0,false,false⟩ else none
def zero? (P:Program) (t:TypeId):Option Value:=(P.info? t).bind (·.zero)
def size? (P:Program) (t:TypeId):Option Nat:=(P.info? t).map (·.size)
def intBin (op:BinOp) (k:IntKind) (a b:Int):Option Value :=
 match op with
 | .add=>some (.int k (k.wrap (a+b)))
 | .sub=>some (.int k (k.wrap (a - b)))
 | .mul=>some (.int k (k.wrap (a * b)))
 | .quo=>if b=0 then none else some (.int k (k.wrap (a.tdiv b)))
 | .rem=>if b=0 then none else some (.int k (a.tmod b))
 | .and=>some (.int k (k.wrap (BitVec.ofInt k.bits a &&& BitVec.ofInt k.bits b).toNat))
 | .or=>some (.int k (k.wrap (BitVec.ofInt k.bits a ||| BitVec.ofInt k.bits b).toNat))
 | .xor=>some (.int k (k.wrap (BitVec.ofInt k.bits a ^^^ BitVec.ofInt k.bits b).toNat))
 | .andNot=>some (.int k (k.wrap (BitVec.ofInt k.bits a &&& ~~~(BitVec.ofInt k.bits b)).toNat))
 | .eql=>some (.bool (a == b))
 | .neq=>some (.bool (a != b))
 | .lss=>some (.bool (decide (a<b)))
 | .leq=>some (.bool (decide (a≤b)))
 | .gtr=>some (.bool (decide (a > b)))
 | .geq=>some (.bool (decide (a ≥ b)))
 | _=>none
def shiftA (op:BinOp) (k:IntKind) (a b:Int):Option Value :=
 if b<0 then none else
 match op with
 | .shl=>some (.int k (k.wrap (a * 2 ^ (min b.toNat k.bits))))
 | .shr=>some (.int k (a.fdiv (2 ^ (min b.toNat k.bits))))
 | _=>none
def strBin (op:BinOp) (x y:ByteArray):Option Value :=
 match op with
 | .add=>if ((x.size+y.size:Nat):Int) > IntKind.i64.max then none else some (.string (x++y))
 | .eql=>some (.bool (x.toList == y.toList))
 | .neq=>some (.bool (!(x.toList == y.toList)))
 | .lss=>some (.bool (Op.bytesLess x.toList y.toList))
 | .leq=>some (.bool (Op.bytesLess x.toList y.toList || x.toList == y.toList))
 | .gtr=>some (.bool (!(Op.bytesLess x.toList y.toList || x.toList == y.toList)))
 | .geq=>some (.bool (!(Op.bytesLess x.toList y.toList)))
 | _=>none
/-- == of what may be nil, of bools. -/
def eqA (P:Program) (t:TypeId) (x y:Value):Option Bool :=
 match P.underlying t,x,y with
 | some .bool,.bool a,.bool b=>some (a == b)
 | some (.pointer _),.pointer none,.pointer b=>some b.isNone
 | some (.pointer _),.pointer (some _),.pointer none=>some false
 | some (.slice _),.slice none _ _,.slice b _ _=>some b.isNone
 | some (.slice _),.slice (some _) _ _,.slice none _ _=>some false
 | _,_,_=>none
/-- Cells that are of a struct's plain fields. -/
def fitCell (d:Option TypeDesc) (v:Value):Bool :=
 match d,v with
 | some .bool,.bool _=>true
 | some (.int _),.int _ _=>true
 | some .string,.string _=>true
 | _,_=>false
def fitCells (P:Program):List Field→List Value→Bool
 | [],[]=>true
 | f :: fs,v :: vs=>fitCell (P.underlying f.type) v && fitCells P fs vs
 | _,_=>false
def fitAgg (P:Program) (t:TypeId) (xs:List Value):Bool :=
 match P.underlying t with
 | some (.struct fs)=>fitCells P fs.toList xs
 | _=>false
/-- == of structs of plain cells: asked of a table, which the proof fills. -/
def bin (P:Program) (E:TypeId→Bool) (op:BinOp) (t:TypeId) (x y:Value):Option Value :=
 match x,y with
 | .int k a,.int k' b =>
  match op with
  | .shl | .shr=>shiftA op k a b
  | _=>if k=k' then intBin op k a b else none
 | .string a,.string b=>strBin op a b
 | .agg xs,.agg ys =>
  if E t && fitAgg P t xs.toList && xs.toList.all flat && ys.toList.all flat then
   match op with
   | .eql=>(eqCells xs.toList ys.toList).map .bool
   | .neq=>(eqCells xs.toList ys.toList).map fun b => .bool (!b)
   | _=>none
  else none
 | _,_ =>
  match op with
  | .eql=>(eqA P t x y).map .bool
  | .neq=>(eqA P t x y).map fun b => .bool (!b)
  | _=>none
where
 eqCells:List Value→List Value→Option Bool
  | [],[]=>some true
  | .int k a :: r,.int k' b :: s=>if k=k' then(eqCells r s).map ((a == b) && ·) else none
  | .bool a :: r,.bool b :: s=>(eqCells r s).map ((a == b) && ·)
  | .string a :: r,.string b :: s=>(eqCells r s).map ((a == b) && ·)
  | _,_=>none
def un (op:UnOp) (x:Value):Option Value :=
 match op,x with
 | .neg,.int k n=>some (.int k (k.wrap (0 - n)))
 | .xor,.int k n=>intBin .xor k (if k.signed then -1 else k.max) n
 | .not,.bool b=>some (.bool !b)
 | _,_=>none
def bound (x:Option Value) (y:Nat) (d:Nat):Option Nat :=
 match x with
 | none=>some d
 | some (.int _ i)=>if 0≤i∧i≤y then some i.toNat else none
 | some _=>none
/-- s[l:h:m] of a slice (of a known capacity, or up to its length). -/
def cutA (P:Program) (e:TypeId) (a:Option Addr) (len cap:Nat) (lo hi mx:Option Value):Option Value:=do
 let sz ← size? P e
 let m ← (if mx.isSome then bound mx (if cap<OPEN then cap else len) cap else some cap)
 let h ← (if hi.isSome then bound hi (if mx.isSome then m else if cap<OPEN then cap else len) len else if mx.isSome then none else some len)
 let l ← bound lo h 0
 match a with
 | none=>some (.slice none 0 0)
 | some a=>if sz=0∨(mx.isSome=true∧OPEN≤m) then none else some (.slice (some (a.add (l * sz))) (h - l) (if m<OPEN then m - l else m))
def srcCells (H:Heap) (sz:Nat):Value→Option (List Value)
 | .slice none _ _=>some []
 | .slice (some b) n _=>if n=0 then some [] else H.cells b (n * sz)
 | .string s=>if sz=1 then some (s.data.toList.map fun b => .int .u8 b.toNat) else none
 | _=>none
def lenA : Value→Option Nat
 | .slice _ n _=>some n
 | .string s=>some s.size
 | _=>none
/-- append(s, x...). -/
def appendA (P:Program) (H:Heap) (e:TypeId) (s x:Value):Option Eff:=do
 let i ← P.info? e
 let n ← lenA x
 match s with
 | .slice base len cap =>
  if n=0 then some (s,H,[]) else do
  let new ← srcCells H i.size x
  if i.size=0∨¬ new.all Value.oneCell'∨(i.zero.map fun z=>z.cells.size)≠some i.size∨(len+n) * i.bytes > 1099511627776∨len+n > 1099511627776 then none else
  match base with
  | none=>some (.slice (some ⟨H.next,0,none⟩) (len+n) OPEN,H.make ⟨new,i.size,false,true⟩,[])
  | some a =>
   if cap<OPEN∧len+n≤cap then do
    let H' ← H.put (a.add (len * i.size)) new
    some (.slice (some a) (len+n) cap,H',[a.block])
   else if cap<OPEN then do
    let old ← (if len=0 then some [] else H.cells a (len * i.size))
    some (.slice (some ⟨H.next,0,none⟩) (len+n) OPEN,H.make ⟨old++new,i.size,false,true⟩,[])
   else do
    let B ← H.blk a.block
    if B.rd∨B.opn=false∨B.esz≠i.size∨a.off+len * i.size > B.cells.length then none else
    if a.off+(len+n) * i.size≤B.cells.length then do
     let H' ← H.put (a.add (len * i.size)) new
     some (.slice (some a) (len+n) cap,H',[a.block])
    else
     some (.slice (some ⟨H.next,0,none⟩) (len+n) OPEN,(H.set a.block none).make ⟨(B.cells.drop a.off).take (len * i.size)++new,i.size,false,true⟩,[a.block])
 | _=>none
/-- copy(d, x). -/
def copyA (P:Program) (H:Heap) (e:TypeId) (d x:Value):Option Eff:=do
 let sz ← size? P e
 let n ← lenA x
 match d with
 | .slice base len _ =>
  if min n len=0 then some (.int .i64 0,H,[]) else
  match base,x with
  | some a,.slice (some b) _ _=>do
   let new ← H.cells b (min n len * sz)
   let H' ← H.put a new
   some (.int .i64 ((min n len:Nat):Int),H',[a.block])
  | _,_=>none
 | _=>none
def bytesIn : List Value→Option (List UInt8)
 | []=>some []
 | .int .u8 n :: r=>(bytesIn r).map (UInt8.ofNat n.toNat :: ·)
 | _ :: _=>none
def isU8 : Option TypeDesc→Bool
 | some (.int .u8)=>true
 | _=>false
def posB : Option Nat→Bool
 | some s=>s != 0
 | none=>false
def eszB (P:Program) (H:Heap) (e:TypeId):Option Addr→Bool
 | some a =>
  match H.blk a.block,size? P e with
  | some B,some s=>B.esz == s
  | _,_=>false
 | none=>false
def convA (P:Program) (H:Heap) (src dst:TypeId) (x:Value):Option Eff :=
 match P.underlying src,P.underlying dst,x with
 | some _,some (.int k),.int _ n=>some (.int k (k.wrap n),H,[])
 | some .string,some .string,.string s=>some (.string s,H,[])
 | some (.slice e),some .string,.slice none 0 0=>if isU8 (P.underlying e) then some (.string .empty,H,[]) else none
 | some (.slice e),some .string,.slice (some a) n _ =>
  if isU8 (P.underlying e) then
   (if n=0 then some [] else H.cells a n).bind fun l=>(bytesIn l).map fun b=>(.string ⟨b.toArray⟩,H,[])
  else none
 | some .string,some (.slice e),.string s =>
  if isU8 (P.underlying e) && decide (s.size≤1099511627776) then some (.slice (some ⟨H.next,0,none⟩) s.size OPEN,H.make ⟨s.data.toList.map fun b => .int .u8 b.toNat,1,false,true⟩,[]) else none
 | some (.slice _),some (.slice e),.slice (some a) n c =>
  if src=dst∧isU8 (P.underlying e)=true∧n≠0 then
   match H.blk a.block with
   | some B=>if B.rd=false∧B.isMap=false then some (.slice (some a) n c,H,[a.block]) else none
   | none=>none
  else none
 | _,_,_=>none
def makeSl (P:Program) (H:Heap) (t:TypeId) (l c:Value):Option Eff :=
 match P.underlying t,l,c with
 | some (.slice e),.int _ l,.int _ c =>
  match P.info? e with
  | some i =>
   match i.zero with
   | some z=>if 0≤l∧l≤c∧c * i.bytes≤1099511627776∧c≤1099511627776∧i.size≠0∧z.cells.size=i.size∧z.cells.toList.all Value.oneCell'=true∧z.cells.toList.all flat=true then
     some (.slice (some ⟨H.next,0,none⟩) l.toNat c.toNat,H.make ⟨(List.range (c.toNat * i.size)).map (fun j=>z.cells[j % z.cells.size]!),i.size,false,false⟩,[]) else none
   | none=>none
  | none=>none
 | _,_,_=>none
def buildA (P:Program) (H:Heap) (t:TypeId) (parts:List (Nat×Value)):Option Eff :=
 match zero? P t with
 | some z=>if z.cells.toList.all flat then(P.built t parts).map fun c=>(.agg c,H,[]) else none
 | none=>none
def buildSl (P:Program) (H:Heap) (t:TypeId) (len:Nat) (parts:List (Nat×Value)):Option Eff :=
 match P.underlying t with
 | some (.slice e) =>
  match P.info? e with
  | some i =>
   match i.zero with
   | some z=>if i.size≠0∧len * i.size≤16777216∧z.cells.size≠0∧z.cells.toList.all flat=true then
     (Instr.fill (fun k=>some (k * i.size,i.size)) ((Array.range (len * i.size)).map (z.cells[· % z.cells.size]!)) parts).bind fun c =>
      if c.toList.all Value.oneCell' then some (.slice (some ⟨H.next,0,none⟩) len len,H.make ⟨c.toList,i.size,false,false⟩,[]) else none
    else none
   | none=>none
  | none=>none
 | _=>none
def fieldA (P:Program) (t:TypeId) (x:Value) (f:Nat):Option Value :=
 match P.underlying t,x with
 | some (.struct fs),.agg cs =>
  match fs[f]? with
  | some fd =>
   match P.underlying fd.type,size? P fd.type with
   | some d,some s=>if isAggB d then(if fd.offset+s≤cs.size then some (.agg (cs.extract fd.offset (fd.offset+s))) else none) else cs[fd.offset]?
   | _,_=>none
  | none=>none
 | _,_=>none
def indexA (P:Program) (t:TypeId) (x i:Value):Option Value :=
 match P.underlying t,x,i with
 | some .string,.string s,.int _ n=>if 0≤n then(s[n.toNat]?).map fun b => .int .u8 b.toNat else none
 | some (.array len e),.agg cs,.int _ n =>
  match P.underlying e,size? P e with
  | some d,some s=>if 0≤n∧n<len∧isAggB d=false∧s=1 then cs[n.toNat]? else none
  | _,_=>none
 | _,_,_=>none
/-- The address of an element, of a field. -/
def indexAd (P:Program) (t:TypeId) (x i:Value):Option Value :=
 match P.underlying t,x,i with
 | some (.slice e),.slice (some a) len _,.int _ n=>if 0≤n∧n<len then(size? P e).map fun s => .pointer (some (a.add (n.toNat * s))) else none
 | some (.array len e),.pointer (some a),.int _ n=>if 0≤n∧n<len then(size? P e).map fun s => .pointer (some (a.add (n.toNat * s))) else none
 | _,_,_=>none
def fieldAd (P:Program) (t:TypeId) (x:Value) (f:Nat):Option Value :=
 match P.underlying t,x with
 | some (.struct fs),.pointer (some a) =>
  match fs[f]? with
  | some fd=>if posB (size? P fd.type) then some (.pointer (some (a.add fd.offset))) else none
  | none=>none
 | _,_=>none
def sliceA (P:Program) (H:Heap) (t:TypeId) (x:Value) (lo hi mx:Option Value):Option Value :=
 match P.underlying t,x with
 | some .string,.string s=>if mx.isSome then none else do
   let h ← bound hi s.size s.size
   let l ← bound lo h 0
   some (.string (s.extract l h))
 | some (.slice e),.slice a len cap =>
  if decide (cap<OPEN) || eszB P H e a then cutA P e a len cap lo hi mx else none
 | some (.array n e),.pointer (some a) =>
  if mx.isSome=true∨OPEN≤n then none else do
   let sz ← size? P e
   let h ← bound hi n n
   let l ← bound lo h 0
   some (.slice (some (a.add (l * sz))) (h - l) (n - l))
 | _,_=>none
/-- A slice whose capacity is not known is lengthened: its block's cells are there. -/
def wideA (H:Heap) (x:Value) (hi:Option Value):Option Value :=
 match x,hi with
 | .slice (some a) _ cap,some (.int _ h) =>
  match H.blk a.block with
  | some B=>if OPEN≤cap∧0≤h∧B.esz≠0∧a.off+h.toNat * B.esz≤B.cells.length then some (.slice (some a) h.toNat cap) else none
  | none=>none
 | _,_=>none
/-- A cut, also behind the length. -/
def sliceX (P:Program) (H:Heap) (t:TypeId) (x:Value) (lo hi mx:Option Value):Option Value :=
 match sliceA P H t x lo hi mx with
 | some v=>some v
 | none=>(wideA H x hi).bind fun x=>sliceA P H t x lo hi mx
theorem sliceX_of {P:Program} {H:Heap} {t:TypeId} {x v:Value} {lo hi mx:Option Value} (h:sliceA P H t x lo hi mx=some v):sliceX P H t x lo hi mx=some v:=by
 unfold sliceX
 rw[h]
/-- clear(x). -/
def clearA (P:Program) (H:Heap) (e:TypeId) (x:Value):Option Eff :=
 match x with
 | .slice none _ _=>some (.tuple #[],H,[])
 | .slice (some a) n _ =>
  if n=0 then some (.tuple #[],H,[]) else
  match zero? P e with
  | some z=>if z.cells.toList.all flat=true then(H.put a (Builtin.zeroCells z.cells n).toList).map fun H'=>(.tuple #[],H',[a.block]) else none
  | none=>none
 | _=>none
/-- What a map holds at a key. -/
def mapGet (s:ByteArray):List Value→Option Value
 | .string k :: v :: r=>if (s == k)=true then some v else mapGet s r
 | _=>none
/-- A map with something at a key. -/
def mapPut (s:ByteArray) (x:Value):List Value→List Value
 | .string k :: v :: r=>if (s == k)=true then .string s :: x :: r else .string k :: v :: mapPut s x r
 | _ => [.string s,x]
/-- Maps by texts: what they hold. -/
def mapOf (P:Program) (t:TypeId):Option TypeId :=
 match P.underlying t with
 | some (.map k e)=>match P.underlying k with
  | some .string=>some e
  | _=>none
 | _=>none
def lookupA (P:Program) (H:Heap) (t:TypeId) (m k:Value) (ok:Bool):Option Value :=
 match mapOf P t,m,k with
 | some e,.map none,.string _=>(zero? P e).bind fun z=>if flat z=true then some (if ok then .tuple #[z,.bool false] else z) else none
 | some e,.map (some b),.string s =>
  match H.blk b with
  | some B=>if B.isMap=true then
    match mapGet s B.cells with
    | some v=>some (if ok then .tuple #[v,.bool true] else v)
    | none=>(zero? P e).bind fun z=>if flat z=true then some (if ok then .tuple #[z,.bool false] else z) else none
   else none
  | none=>none
 | _,_,_=>none
def updA (P:Program) (H:Heap) (t:TypeId) (m k x:Value):Option Eff :=
 match mapOf P t,m,k with
 | some _,.map (some b),.string s =>
  match H.blk b with
  | some B=>if B.isMap=true∧s.size≤140737488355328 then some (undef,H.set b (some { B with cells:=mapPut s x B.cells }),[b]) else none
  | none=>none
 | _,_,_=>none
end Go.AM

/- The program's code, run over our memory. -/
namespace Go.AM
open Go

def pureV (H:Heap) (v:Option Value):Option Eff:=v.map fun v=>(v,H,[])
def minA : List Value→Option Value
 | [.int k a,.int _ b]=>some (.int k (if b<a then b else a))
 | _=>none
def maxA : List Value→Option Value
 | [.int k a,.int _ b]=>some (.int k (if a<b then b else a))
 | _=>none
def lenB (P:Program) (t:Option TypeId) (x:Value):Option Value :=
 match t.bind P.underlying,x with
 | some .string,.string s=>some (.int .i64 s.size)
 | some (.slice _),.slice _ n _=>some (.int .i64 n)
 | some (.array n _),_=>some (.int .i64 n)
 | _,_=>none
def isRow (P:Program) (t:Option TypeId):Bool :=
 match t.bind P.underlying with
 | some (.slice _) | some .string=>true
 | _=>false
def builtinA (P:Program) (H:Heap) (b:Builtin) (ts:Array TypeId) (args:List Value):Option Eff :=
 match b,args with
 | .len,[x]=>pureV H (lenB P ts[0]? x)
 | .append,[s,x] =>
  match (ts[0]?).bind P.underlying with
  | some (.slice e)=>if isRow P ts[1]? then appendA P H e s x else none
  | _=>none
 | .copy,[d,x] =>
  match (ts[0]?).bind P.underlying with
  | some (.slice e)=>copyA P H e d x
  | _=>none
 | .clear,[x] =>
  match (ts[0]?).bind P.underlying with
  | some (.slice e)=>clearA P H e x
  | _=>none
 | .min,l=>pureV H (minA l)
 | .max,l=>pureV H (maxA l)
 | _,_=>none
def evals (r:Regs) (xs:List Operand):Option (List Value):=xs.mapM r.eval
def optEval (r:Regs):Option Operand→Option (Option Value)
 | none=>some none
 | some x=>(r.eval x).map some
def ptr? : Value→Option Addr
 | .pointer a=>a
 | _=>none
def evOp (P:Program) (E:TypeId→Bool) (r:Regs) (H:Heap) (o:Oper):Option Eff :=
 match o.op with
 | .move x | .assign x=>pureV H (r.eval x)
 | .pick c a b =>
  match r.eval c with
  | some (.bool t)=>pureV H (if t then r.eval a else r.eval b)
  | _=>none
 | .alloc e=>(zero? P e).bind fun z=>if z.cells.toList.all flat then newv H z else none
 | .box _ x=>(r.eval x).bind (newv H)
 | .build t ps=>(ps.toList.mapM fun(p:Nat×Operand)=>(r.eval p.2).map fun v=>(p.1,v)).bind (buildA P H t)
 | .buildSlice t len ps=>(ps.toList.mapM fun(p:Nat×Operand)=>(r.eval p.2).map fun v=>(p.1,v)).bind (buildSl P H t len)
 | .load t a=>pureV H (((r.eval a).bind ptr?).bind (lvar P H t))
 | .store t a x=>((r.eval a).bind ptr?).bind fun a=>(r.eval x).bind fun v=>(svar P H t a v).map fun H'=>(undef,H',[a.block])
 | .nilCheck x =>
  match r.eval x with
  | some (.pointer (some a))=>some (.pointer (some a),H,[])
  | _=>none
 | .binOp op t x y _=>(r.eval x).bind fun x=>(r.eval y).bind fun y=>pureV H (bin P E op t x y)
 | .unOp op _ x=>(r.eval x).bind fun x=>pureV H (un op x)
 | .convert s d x=>(r.eval x).bind (convA P H s d)
 | .makeFunc fn first captured=>if first.size=0 then(evals r captured.toList).map fun l=>(.func fn #[] l.toArray,H,[]) else none
 | .makeSlice t l c=>(r.eval l).bind fun l=>(r.eval c).bind (makeSl P H t l)
 | .slice t x lo hi mx=>(r.eval x).bind fun x=>(optEval r lo).bind fun lo=>(optEval r hi).bind fun hi=>(optEval r mx).bind fun mx=>pureV H (sliceX P H t x lo hi mx)
 | .fieldAddr t x f=>(r.eval x).bind fun x=>pureV H (fieldAd P t x f)
 | .field t x f=>(r.eval x).bind fun x=>pureV H (fieldA P t x f)
 | .indexAddr t x i=>(r.eval x).bind fun x=>(r.eval i).bind fun i=>pureV H (indexAd P t x i)
 | .index t x i=>(r.eval x).bind fun x=>(r.eval i).bind fun i=>pureV H (indexA P t x i)
 | .extract x i =>
  match r.eval x with
  | some (.tuple vs)=>pureV H vs[i]?
  | _=>none
 | .call c =>
  (evals r c.args.toList).bind fun args =>
   match c.callee with
   | .builtin b=>builtinA P H b c.argTypes args
   | _=>none
 | .makeMap t none=>(mapOf P t).map fun _=>(.map (some H.next),H.make ⟨[],0,false,true⟩,[])
 | .lookup t m k ok=>(r.eval m).bind fun m=>(r.eval k).bind fun k=>pureV H (lookupA P H t m k ok)
 | .mapUpdate t m k x=>(r.eval m).bind fun m=>(r.eval k).bind fun k=>(r.eval x).bind (updA P H t m k)
 | _=>none
/-- Is it run? -/
def wants (ops:Array Oper) (r:Regs) (o:Oper):Option Bool :=
 match o.guard with
 | none=>some true
 | some (j,want) =>
  match (ops[j]?).bind (·.dst) with
  | some d =>
   match r.f d with
   | some (.bool b)=>some (b == want)
   | some (.tuple vs)=>if vs.size=0 then some false else none
   | _=>none
  | none=>none
end Go.AM

/- What is run over our memory is what the given machine does: single operations. -/
namespace Go.AM
open Go
variable {ι : Map} {H : Heap} {w : World}

theorem VR.of_flat {v:Value} (h:flat v=true):VR ι v v:=by
 cases v with
 | bool b=>exact .bool b
 | int k n=>exact .int k n
 | string s=>exact .string s
 | pointer a=>cases a with
  | none=>exact .nilptr
  | some a=>simp [flat] at h
 | slice a n c=>cases a with
  | none =>
   cases n with
   | zero=>cases c with
    | zero=>exact .nilsl
    | succ c=>simp [flat] at h
   | succ n=>simp [flat] at h
  | some a=>simp [flat] at h
 | nilFunc=>exact .nilFunc
 | nilIface=>exact .nilIface
 | map m=>cases m with
  | none=>exact .nilmap
  | some m=>simp [flat] at h
 | _=>simp [flat] at h
theorem flat_eq {v v':Value} (hf:flat v=true) (h:VR ι v v'):v'=v:=by
 cases h <;> first | rfl | (simp [flat] at hf)
theorem AsR.of_flat {l:List Value} (h:l.all flat=true):AsR ι l.toArray l.toArray :=
 ⟨rfl,fun i x y hx hy=>by
  rw[hx] at hy
  cases hy
  refine VR.of_flat (List.all_eq_true.1 h x ?_)
  rw[List.getElem?_toArray] at hx
  exact List.mem_of_getElem? hx⟩
theorem AsR.of_list {l l':List Value} (h:AsR ι l.toArray l'.toArray):l.length=l'.length∧∀ (i:Nat) (x y:Value),l[i]?=some x→l'[i]?=some y→VR ι x y :=
 ⟨by simpa using h.1,fun i x y hx hy=>h.2 i x y (by rw[List.getElem?_toArray];exact hx) (by rw[List.getElem?_toArray];exact hy)⟩
theorem AsR.toList {xs ys:Array Value} (h:AsR ι xs ys):AsR ι xs.toList.toArray ys.toList.toArray:=by simpa using h
/-- The slots. -/
def RegR (ι:Map) (r:Regs) (tmps:Array Value):Prop:=tmps.size=r.n∧∀ t v,r.f t=some v→∃ v',tmps[t]?=some v'∧VR ι v v'
theorem RegR.mono {ι':Map} (hl:ι.le ι') {r:Regs} {tmps:Array Value} (h:RegR ι r tmps):RegR ι' r tmps :=
 ⟨h.1,fun t v hv=>let ⟨v',a,b⟩:=h.2 t v hv;⟨v',a,b.mono hl⟩⟩
theorem RegR.eval {r:Regs} {a:Act} (h:RegR ι r a.tmps) {x:Operand} {v:Value} (hv:r.eval x=some v):VR ι v (a.eval x):=by
 cases x with
 | tmp t =>
  obtain⟨v',h1,h2⟩:=h.2 t v hv
  simp only [Act.eval,Array.getD_eq_getD_getElem?,h1]
  exact h2
 | const c =>
  simp only [Regs.eval] at hv
  split at hv
  ·
   rename_i hf
   cases hv
   exact .of_flat hf
  · cases hv
 | global g=>simp [Regs.eval] at hv
 | func f =>
  simp only [Regs.eval] at hv
  cases hv
  exact .func (.func f) rfl (fun i x y hx=>by simp at hx)
/-- A slot that is written: it must be there. -/
def dstOk (n:Nat):Option Tmp→Bool
 | none=>true
 | some d=>decide (d<n)
theorem RegR.put {r:Regs} {a:Act} (h:RegR ι r a.tmps) {d:Option Tmp} (hd:dstOk r.n d=true) {v v':Value} (hv:VR ι v v'):RegR ι (r.put d v) (a.put d v').tmps:=by
 cases d with
 | none=>exact h
 | some d =>
  simp only [dstOk,decide_eq_true_eq] at hd
  refine⟨by simp only [Act.put,Regs.put,Array.size_setIfInBounds];exact h.1,fun t u hu=>?_⟩
  simp only [Regs.put] at hu
  simp only [Act.put]
  by_cases e:t=d
  ·
   subst e
   rw[if_pos rfl] at hu
   cases hu
   exact⟨v',by rw[Array.getElem?_setIfInBounds_self_of_lt (by rw[h.1];exact hd)],hv⟩
  ·
   rw[if_neg e] at hu
   obtain⟨u',h1,h2⟩:=h.2 t u hu
   exact⟨u',by rw[Array.getElem?_setIfInBounds_ne (fun x=>e x.symm)];exact h1,h2⟩
theorem evals_R {r:Regs} {a:Act} (h:RegR ι r a.tmps):∀ (xs:List Operand) (vs:List Value),evals r xs=some vs→AsR ι vs.toArray (xs.map a.eval).toArray:=by
 intro xs
 induction xs with
 | nil =>
  intro vs hv
  simp [evals] at hv
  subst hv
  exact⟨rfl,fun i x y hx=>by simp at hx⟩
 | cons x xs ih =>
  intro vs hv
  simp only [evals,List.mapM_cons,Option.bind_eq_bind,Option.bind_eq_some_iff,Option.pure_def,Option.some.injEq] at hv
  obtain⟨v,h1,l,h2,rfl⟩:=hv
  obtain⟨e1,e2⟩:=(ih l h2).of_list
  refine⟨by simp only [List.size_toArray,List.length_cons,List.map_cons];omega,fun i p q hp hq=>?_⟩
  simp only [List.map_cons,List.getElem?_toArray] at hp hq
  cases i with
  | zero =>
   simp at hp hq
   subst hp hq
   exact h.eval h1
  | succ i =>
   simp at hp
   simp at hq
   exact e2 i p q hp (by simp [hq])
end Go.AM

/- What is made over our memory is what the given machine makes. -/
namespace Go.AM
open Go
variable {ι : Map} {H : Heap} {w : World}

def Map.set (ι:Map) (b:Nat) (L:Loc):Map:=fun k=>if k=b then some L else ι k
theorem Map.le_set {b:Nat} {L:Loc} (h:∀ b' L',ι b'=some L'→b'<b):ι.le (ι.set b L):=fun b' L' h'=>by
 have:=h b' L' h'
 simp only [Map.set]
 rw[if_neg (by omega)]
 exact h'
/-- Cells told one by one. -/
def CR (ι:Map) (l:List Value) (C:Array Value):Prop:=l.length≤C.size∧∀ (i:Nat) (v:Value),l[i]?=some v→∃ v',C[i]?=some v'∧VR ι v v'
theorem CR.of_AsR {l:List Value} {C:Array Value} (h:AsR ι l.toArray C):CR ι l C :=
 ⟨by have:=h.1;simp at this;omega,fun i v hv=>h.get (by rw[List.getElem?_toArray];exact hv)⟩
/-- A block more. -/
theorem make_new (h:R ι H w) {l:List Value} {esz:Nat} {opn:Bool} {C:Array Value} {el:TypeId} {fr:Nat×Nat} (hfr:fr=(0,0)∨fr=(C.size,C.size+1)) (hc:CR ι l C) (hs:opn=false→C.size=l.length)
  {w':World} (hh:w'.heap=w.heap.push (.cells C el fr)) (ho:w'.os=w.os) (ht:w'.tape=w.tape) (hu:w'.output=w.output) (hmp:(Blk.mk l esz false opn).isMap=false:=by rfl) :
  R (ι.set H.next ⟨w.heap.size,0,esz,C.size⟩) (H.make ⟨l,esz,false,opn⟩) w'∧Step ι H w (ι.set H.next ⟨w.heap.size,0,esz,C.size⟩) (H.make ⟨l,esz,false,opn⟩) w' ∧
   AR (ι.set H.next ⟨w.heap.size,0,esz,C.size⟩) ⟨H.next,0,none⟩ ⟨w.heap.size,0,none⟩:=by
 have hle:ι.le (ι.set H.next ⟨w.heap.size,0,esz,C.size⟩):=Map.le_set h.dom
 have hold:∀ c,c<w.heap.size→w'.heap[c]?=w.heap[c]?:=fun c hc=>by rw[hh,Array.getElem?_push,if_neg (by omega)]
 have hnew:w'.heap[w.heap.size]?=some (.cells C el fr):=by rw[hh];simp
 have hblk:∀ b B,H.blk b=some B→b<H.next:=fun b B hb=>let ⟨L,hL,_⟩:=h.live b B hb;h.dom b L hL
 have hin:∀ b B L,H.blk b=some B→ι b=some L→L.blk<w.heap.size:=fun b B L hb hL=>by
  obtain⟨L',hL',hbr⟩:=h.live b B hb
  rw[hL] at hL'
  cases hL'
  exact hbr.lt
 refine⟨⟨?_,?_,?_⟩,⟨hle,Nat.le_succ _,ho,ht,hu,by rw[hh];simp,fun c hc _=>hold c hc,?_,fun b B hb hr=>?_,fun b L hb=>?_⟩,rfl,⟨w.heap.size,0,esz,C.size⟩,by simp [Map.set],by simp⟩
 ·
  intro b L hb
  simp only [Map.set] at hb
  simp only [Heap.make]
  split at hb
  · omega
  · have:=h.dom b L hb;omega
 ·
  intro b B hb
  simp only [Heap.make] at hb
  split at hb
  ·
   rename_i e
   cases hb
   subst e
   refine⟨⟨w.heap.size,0,esz,C.size⟩,by simp [Map.set],⟨rfl,fun _ _=>rfl,fun _=>hc.1,fun _ h2=>hs h2,fun hm=>(by rw[hmp] at hm;cases hm),fun _=>⟨C,el,fr.1,fr.2,hnew,by simpa using hc.1,?_,?_⟩⟩⟩
   ·
    intro i v hv
    obtain⟨v',a,b⟩:=hc.2 i v hv
    exact⟨v',by simpa using a,b.mono hle⟩
   ·
    intro _
    refine⟨by simp,?_⟩
    rcases hfr with rfl | rfl
    · exact .inl rfl
    · exact .inr (Nat.le_refl _)
  ·
   rename_i e
   obtain⟨L,hL,hbr⟩:=h.live b B hb
   exact⟨L,hle _ _ hL,hbr.mono hle (hold _ (hin b B L hb hL))⟩
 ·
  intro b b' B B' L L' hne hb hb' hl hl' hrd
  simp only [Heap.make] at hb hb'
  simp only [Map.set] at hl hl'
  by_cases e1:b=H.next
  ·
   rw[if_pos e1] at hb hl
   have e2:b'≠H.next:=fun x=>hne (e1.trans x.symm)
   rw[if_neg e2] at hb' hl'
   cases hl
   have:=hin b' B' L' hb' hl'
   simp only
   omega
  ·
   rw[if_neg e1] at hb hl
   by_cases e2:b'=H.next
   ·
    rw[if_pos e2] at hb' hl'
    cases hl'
    have:=hin b B L hb hl
    simp only
    omega
   ·
    rw[if_neg e2] at hb' hl'
    exact h.apart b b' B B' L L' hne hb hb' hl hl' hrd
 ·
  intro c hc
  obtain⟨b,B,L,p,q,r,s⟩:=hc
  simp only [Heap.make] at p
  simp only [Map.set] at q
  by_cases e1:b=H.next
  ·
   rw[if_pos e1] at q
   cases q
   exact .inr (by simp only at s;omega)
  ·
   rw[if_neg e1] at p q
   exact .inl ⟨b,B,L,p,q,r,s⟩
 ·
  simp only [Heap.make] at hb
  split at hb
  · cases hb;cases hr
  · exact hb
 ·
  simp only [Map.set] at hb
  split at hb
  · exact .inr (by omega)
  · exact .inl hb
/-- What is left as it was. -/
def Keeps (H H':Heap) (W:List Nat):Prop:=H.next≤H'.next∧∀ b,b<H.next→b ∉ W→H'.blk b=H.blk b
theorem Keeps.refl (H:Heap):Keeps H H []:=⟨Nat.le_refl _,fun _ _ _=>rfl⟩
theorem Keeps.make (H:Heap) (B:Blk):Keeps H (H.make B) []:=⟨Nat.le_succ _,fun b hb _=>by simp only [Heap.make];rw[if_neg (by omega)]⟩
theorem Keeps.trans {H H' H'':Heap} {W W':List Nat} (h:Keeps H H' W) (k:Keeps H' H'' W'):Keeps H H'' (W++W') :=
 ⟨Nat.le_trans h.1 k.1,fun b hb hw=>(k.2 b (Nat.lt_of_lt_of_le hb h.1) (fun x=>hw (List.mem_append_right _ x))).trans (h.2 b hb (fun x=>hw (List.mem_append_left _ x)))⟩
theorem Keeps.put {H H':Heap} {a:Addr} {vs:List Value} (h:H.put a vs=some H'):Keeps H H' [a.block]:=by
 unfold Heap.put at h
 split at h
 ·
  split at h
  ·
   cases h
   exact⟨Nat.le_refl _,fun b _ hw=>by simp only [Heap.set];rw[if_neg (fun e=>hw (by simp [e]))]⟩
  · cases h
 · cases h
/-- What an operation comes to. -/
def Does (P:Program) (ι:Map) (H:Heap) (w:World) (s:Sem Value) (e:Eff):Prop :=
 ∃ ι' v' w',s.run P w = .ok v' w'∧VR ι' e.1 v'∧R ι' e.2.1 w'∧Step ι H w ι' e.2.1 w'
theorem Does.pure {P:Program} (h:R ι H w) {s:Sem Value} {v v':Value} (hr:s.run P w = .ok v' w) (hv:VR ι v v'):Does P ι H w s (v,H,[]):=⟨ι,v',w,hr,hv,h,.refl ι H w⟩
/-- A variable more. -/
theorem newv_does {P:Program} (h:R ι H w) {v v':Value} (hv:VR ι v v') {e:Eff} (he:newv H v=some e) (t:TypeId):Does P ι H w (do pure (.pointer (some (← newVar t v')))) e∧Keeps H e.2.1 e.2.2:=by
 unfold newv at he
 split at he
 ·
  cases he
  obtain⟨r1,r2,r3⟩:=make_new h (l:=v.cells.toList) (esz:=0) (opn:=false) (C:=v'.cells) (el:=t) (fr:=(0,0)) (.inl rfl) (CR.of_AsR (by simpa using hv.cells)) (fun _=>by simp;exact hv.cells.1.symm)
   (w':={ w with heap:=w.heap.push (.cells v'.cells t) }) rfl rfl rfl rfl
  exact⟨⟨_,_,_,by simp [newVar,newRow,newObj,Sem.run],.ptr r3,r1,r2⟩,Keeps.make _ _⟩
 · cases he
end Go.AM

/- Reading and writing variables; reckoning. -/
namespace Go.AM
open Go
variable {P : Program} {ι : Map} {H : Heap} {w : World}

theorem run_typeInfo {t:TypeId} {i:TypeInfo} (h:P.info? t=some i) (w:World):(typeInfo t).run P w = .ok i w:=by simp [typeInfo,program,Sem.run,h]
theorem run_sizeOf {t:TypeId} {i:TypeInfo} (h:P.info? t=some i) (w:World):(sizeOf t).run P w = .ok i.size w:=by simp [sizeOf,run_typeInfo h]
theorem run_zeroValue {t:TypeId} {z:Value} (h:zero? P t=some z) (w:World):(zeroValue t).run P w = .ok z w:=by
 unfold zero? at h
 obtain⟨i,h1,h2⟩:=Option.bind_eq_some_iff.1 h
 simp [zeroValue,run_typeInfo h1,h2]
theorem run_isAgg {t:TypeId} {d:TypeDesc} (h:P.underlying t=some d) (w:World):(isAgg t).run P w = .ok (isAggB d) w:=by
 simp only [isAgg,Sem.run_bind,run_underlying h,Result.andThen_ok]
 cases d <;> rfl
theorem load_does (h:R ι H w) {t:TypeId} {a a':Addr} (ha:AR ι a a') {v:Value} (hv:lvar P H t a=some v):∃ v',(Instr.loadAt t (.pointer (some a'))).run P w = .ok v' w∧VR ι v v':=by
 unfold lvar at hv
 split at hv
 ·
  rename_i d i hd hi
  simp only [Instr.loadAt,Instr.sureAddr,Sem.run_bind,Sem.run_pure,Result.andThen_ok,loadVar,run_isAgg hd]
  split at hv
  ·
   rename_i hg
   obtain⟨l,h1,rfl⟩:=Option.map_eq_some_iff.1 hv
   obtain⟨l',q1,q2,q3,q4,q5⟩:=cells_load (P:=P) h ha h1
   rw[if_pos hg]
   exact⟨_,by simp [run_sizeOf hi,q3],.agg q4.1 q4.2⟩
  ·
   rename_i hg
   obtain⟨l,h1,h2⟩:=Option.bind_eq_some_iff.1 hv
   obtain⟨l',q1,q2,q3,q4,q5⟩:=cells_load (P:=P) h ha h1
   rw[if_neg hg]
   have hl:l[0]?=some v:=by rw[← List.head?_eq_getElem?];exact h2
   obtain⟨y,p,q⟩:=q4.get (i:=0) (x:=v) (by rw[List.getElem?_toArray];exact hl)
   have:=q5 0 y (by rw[List.getElem?_toArray] at p;exact p)
   rw[Addr.add_zero'] at this
   exact⟨y,by simp [this],q⟩
 · cases hv
theorem store_does (h:R ι H w) {t:TypeId} {a a':Addr} (ha:AR ι a a') {v v':Value} (hvr:VR ι v v') {H':Heap} (hs:svar P H t a v=some H') :
  ∃ w',(Instr.storeAt t (.pointer (some a')) v').run P w = .ok () w'∧R ι H' w'∧Step ι H w ι H' w'∧Keeps H H' [a.block]:=by
 unfold svar at hs
 split at hs
 ·
  rename_i i hi
  split at hs
  ·
   rename_i hz
   obtain⟨w',q1,q2,q3⟩:=put_store (P:=P) h ha hs (hvr.cells.toList)
   refine⟨w',?_,q2,q3,Keeps.put hs⟩
   have hsz:v'.cells.size=i.size:=by rw[← hvr.cells.1];exact hz
   simp only [Instr.storeAt,Instr.sureAddr,Sem.run_bind,Sem.run_pure,Result.andThen_ok,storeVar,run_sizeOf hi]
   simp [hsz,q1]
  · cases hs
 · cases hs
theorem VR.int_inv {k:IntKind} {n:Int} {v':Value} (h:VR ι (.int k n) v'):v' = .int k n:=by cases h;rfl
theorem VR.bool_inv {b:Bool} {v':Value} (h:VR ι (.bool b) v'):v' = .bool b:=by cases h;rfl
theorem VR.string_inv {s:ByteArray} {v':Value} (h:VR ι (.string s) v'):v' = .string s:=by cases h;rfl
theorem intBin_run {op:BinOp} {k:IntKind} {a b:Int} {v:Value} (h:intBin op k a b=some v) (t:TypeId) (w:World):(binOp op t (.int k a) (.int k b)).run P w = .ok v w:=by
 unfold intBin at h
 split at h <;> first | cases h | skip
 all_goals simp_all [binOp,Op.intArith,Op.intDiv,Op.intBits,Op.intCmp]
 all_goals (obtain⟨h1,rfl⟩:=h;simp [h1])
theorem shiftA_run {op:BinOp} {k k':IntKind} {a b:Int} {v:Value} (h:shiftA op k a b=some v) (t:TypeId) (w:World):(binOp op t (.int k a) (.int k' b)).run P w = .ok v w∧(∀ x y,eqGuard op t x y (.int k a) (.int k' b)=Pure.pure ()):=by
 unfold shiftA at h
 split at h
 · cases h
 ·
  rename_i hb
  split at h <;> first | cases h | skip
  all_goals simp [binOp,Op.shift,hb,eqGuard]
theorem strBin_run {op:BinOp} {a b:ByteArray} {v:Value} (h:strBin op a b=some v) (t:TypeId) (w:World):(binOp op t (.string a) (.string b)).run P w = .ok v w:=by
 unfold strBin at h
 split at h <;> first | cases h | skip
 all_goals simp_all [binOp,Op.stringOp]
 all_goals (obtain⟨h1,rfl⟩:=h;simp;omega)
theorem un_does (h:R ι H w) {op:UnOp} {x x':Value} (hx:VR ι x x') {v:Value} (hv:un op x=some v):Does P ι H w (Op.unary op x') (v,H,[]):=by
 unfold un at hv
 split at hv
 ·
  obtain rfl:=hx.int_inv;cases hv
  exact .pure h (by simp [Op.unary,Op.intArith]) (.int _ _)
 ·
  obtain rfl:=hx.int_inv
  rename_i k n
  refine .pure h (v':=v) ?_ ?_
  ·
   have:=intBin_run (P:=P) hv 0 w
   simp only [binOp,ne_eq,not_true,if_false] at this
   simpa [Op.unary] using this
  · simp only [intBin] at hv;cases hv;exact .int _ _
 ·
  obtain rfl:=hx.bool_inv;cases hv
  exact .pure h (by simp [Op.unary]) (.bool _)
 · cases hv
end Go.AM

/- Comparing; converting; cutting; places. -/
namespace Go.AM
open Go
variable {P : Program} {ι : Map} {H : Heap} {w : World}

theorem equal_succ (t:TypeId) (x y:Value):∃ d,Op.equal t x y=Op.equalIn (d+1) t x y:=⟨9999,rfl⟩
theorem eqA_run {t:TypeId} {x y x' y':Value} {b:Bool} (hx:VR ι x x') (hy:VR ι y y') (h:eqA P t x y=some b) (w:World):(Op.equal t x' y').run P w = .ok b w∧(∀ op p q,eqGuard op t p q x' y'=Pure.pure ()):=by
 obtain⟨d,hd⟩:=equal_succ t x' y'
 rw[hd]
 unfold eqA at h
 split at h <;> first | cases h | skip
 ·
  rename_i hu
  obtain rfl:=hx.bool_inv
  obtain rfl:=hy.bool_inv
  exact⟨by simp [Op.equalIn,run_underlying hu],fun op p q=>eqGuard_at_bool _ _ _ _ _ _⟩
 ·
  rename_i hu
  cases hx
  cases hy with
  | nilptr=>exact⟨by simp [Op.equalIn,run_underlying hu],fun op p q=>eqGuard_at_pointer _ _ _ _ _ _⟩
  | ptr _=>exact⟨by simp [Op.equalIn,run_underlying hu],fun op p q=>eqGuard_at_pointer _ _ _ _ _ _⟩
 ·
  rename_i hu
  cases hx
  cases hy
  exact⟨by simp [Op.equalIn,run_underlying hu],fun op p q=>eqGuard_at_pointer _ _ _ _ _ _⟩
 ·
  rename_i hu
  cases hx
  cases hy with
  | nilsl=>exact⟨by simp [Op.equalIn,run_underlying hu],fun op p q=>eqGuard_at_slice _ _ _ _ _ _ _ _⟩
  | sl _=>exact⟨by simp [Op.equalIn,run_underlying hu],fun op p q=>eqGuard_at_slice _ _ _ _ _ _ _ _⟩
 ·
  rename_i hu
  cases hx
  cases hy
  exact⟨by simp [Op.equalIn,run_underlying hu],fun op p q=>eqGuard_at_slice _ _ _ _ _ _ _ _⟩
/-- What the table of structs says. -/
def EqOk (P:Program) (E:TypeId→Bool):Prop:=∀ t,E t=true→∀ (xs ys:Array Value) (b:Bool) (w:World),fitAgg P t xs.toList=true→xs.toList.all flat=true→ys.toList.all flat=true→bin.eqCells xs.toList ys.toList=some b →
 (Op.equal t (.agg xs) (.agg ys)).run P w = .ok b w∧∀ op p q,(eqGuard op t p q (.agg xs) (.agg ys)).run P w = .ok () w
theorem eqCells_flat : ∀ (xs:List Value) {xs':List Value},xs.all flat=true→AsR ι xs.toArray xs'.toArray→xs'=xs:=by
 intro xs xs' hf h
 obtain⟨h1,h2⟩:=h.of_list
 refine List.ext_getElem h1.symm (fun i hi hj=>?_)
 have a:=h2 i xs[i] xs'[i] (List.getElem?_eq_getElem hj) (List.getElem?_eq_getElem hi)
 exact flat_eq (List.all_eq_true.1 hf _ (List.getElem_mem _)) a
theorem agg_flat {xs:Array Value} {v':Value} (hf:xs.toList.all flat=true) (h:VR ι (.agg xs) v'):v' = .agg xs:=by
 cases h with
 | agg hn h =>
  rename_i ys
  have:=eqCells_flat (ι:=ι) xs.toList (xs':=ys.toList) hf (AsR.toList ⟨hn,h⟩)
  rw[Array.toList_inj.1 this]
theorem bin_does {E:TypeId→Bool} (hE:EqOk P E) (h:R ι H w) {op:BinOp} {t:TypeId} {x y x' y':Value} (hx:VR ι x x') (hy:VR ι y y') {v:Value} (hv:bin P E op t x y=some v) (p q:Operand) :
  Does P ι H w (do eqGuard op t p q x' y';binOp op t x' y') (v,H,[]):=by
 unfold bin at hv
 split at hv
 ·
  rename_i k a k' b
  obtain rfl:=hx.int_inv
  obtain rfl:=hy.int_inv
  have sh:∀ {op:BinOp},shiftA op k a b=some v→Does P ι H w (do eqGuard op t p q (.int k a) (.int k' b);binOp op t (.int k a) (.int k' b)) (v,H,[]):=fun {op} hs=>by
   obtain⟨r1,r2⟩:=shiftA_run (P:=P) (k':=k') hs t w
   refine .pure h (v':=v) (by simp [r2,r1]) ?_
   unfold shiftA at hs
   split at hs
   · cases hs
   · split at hs <;> first | (cases hs;exact .int _ _) | cases hs
  split at hv
  · exact sh hv
  · exact sh hv
  ·
   split at hv
   ·
    rename_i hk
    subst hk
    refine .pure h (v':=v) (by rw[eqGuard_at_int];simp [intBin_run hv]) ?_
    unfold intBin at hv
    split at hv <;> first | (cases hv;first | exact .int _ _ | exact .bool _) | (split at hv <;> cases hv;exact .int _ _) | cases hv
   · cases hv
 ·
  obtain rfl:=hx.string_inv
  obtain rfl:=hy.string_inv
  refine .pure h (v':=v) (by rw[eqGuard_at_string];simp [strBin_run hv]) ?_
  unfold strBin at hv
  split at hv <;> first | (cases hv;first | exact .string _ | exact .bool _) | (split at hv <;> cases hv;exact .string _) | cases hv
 ·
  rename_i xs ys
  split at hv
  ·
   rename_i hc
   simp only [Bool.and_eq_true] at hc
   obtain⟨⟨⟨c1,c4⟩,c2⟩,c3⟩:=hc
   obtain rfl:=agg_flat c2 hx
   obtain rfl:=agg_flat c3 hy
   split at hv
   ·
    obtain⟨b,hb,rfl⟩:=Option.map_eq_some_iff.1 hv
    obtain⟨q1,q2⟩:=hE t c1 xs ys b w c4 c2 c3 hb
    exact .pure h (v' := .bool b) (by simp [q2,binOp,q1]) (.bool _)
   ·
    obtain⟨b,hb,rfl⟩:=Option.map_eq_some_iff.1 hv
    obtain⟨q1,q2⟩:=hE t c1 xs ys b w c4 c2 c3 hb
    exact .pure h (v' := .bool !b) (by simp [q2,binOp,q1]) (.bool _)
   · cases hv
  · cases hv
 ·
  rename_i n1 n2 n3
  split at hv
  ·
   obtain⟨b,hb,rfl⟩:=Option.map_eq_some_iff.1 hv
   obtain⟨q1,q2⟩:=eqA_run hx hy hb w
   refine .pure h (v' := .bool b) ?_ (.bool _)
   rw[show(do eqGuard .eql t p q x' y';binOp .eql t x' y')=(binOp .eql t x' y':Sem Value) by rw[q2];rfl]
   unfold eqA at hb
   split at hb <;> first | cases hb | skip
   all_goals (cases hx;try cases hy)
   all_goals simp_all [binOp]
  ·
   obtain⟨b,hb,rfl⟩:=Option.map_eq_some_iff.1 hv
   obtain⟨q1,q2⟩:=eqA_run hx hy hb w
   refine .pure h (v' := .bool !b) ?_ (.bool _)
   rw[show(do eqGuard .neq t p q x' y';binOp .neq t x' y')=(binOp .neq t x' y':Sem Value) by rw[q2];rfl]
   unfold eqA at hb
   split at hb <;> first | cases hb | skip
   all_goals (cases hx;try cases hy)
   all_goals simp_all [binOp]
  · cases hv
end Go.AM

/- Places, parts, cuts. -/
namespace Go.AM
open Go
variable {P : Program} {ι : Map} {H : Heap} {w : World}

theorem VR.ptr_inv {a:Addr} {v':Value} (h:VR ι (.pointer (some a)) v'):∃ a',v' = .pointer (some a')∧AR ι a a':=by
 cases h with
 | ptr h=>exact⟨_,rfl,h⟩
theorem VR.sl_inv {a:Addr} {n c:Nat} {v':Value} (h:VR ι (.slice (some a) n c) v'):∃ a' c',v' = .slice (some a') n c'∧SR ι a n c a' c':=by
 cases h with
 | sl h=>exact⟨_,_,rfl,h⟩
theorem VR.nilsl_inv {n c:Nat} {v':Value} (h:VR ι (.slice none n c) v'):v' = .slice none 0 0∧n=0∧c=0:=by
 cases h
 exact⟨rfl,rfl,rfl⟩
/-- A slice that is not empty has its place. -/
theorem SR.AR {a a':Addr} {n c c':Nat} (h:SR ι a n c a' c') (hn:0<n):AR ι a a':=by
 obtain⟨h1,h2,h3,L,h4,h5,h6⟩:=h
 exact⟨h1,L,h4,h5 (by omega)⟩
theorem fieldAd_does (h:R ι H w) {t:TypeId} {x x':Value} (hx:VR ι x x') {f:Nat} {v:Value} (hv:fieldAd P t x f=some v):Does P ι H w (Instr.fieldAt t x' f) (v,H,[]):=by
 unfold fieldAd at hv
 split at hv
 ·
  rename_i fs a hu
  obtain⟨a',rfl,ha⟩:=hx.ptr_inv
  split at hv
  ·
   rename_i fd hf
   split at hv
   ·
    rename_i hp
    cases hv
    unfold posB size? at hp
    cases hi:P.info? fd.type with
    | none=>rw[hi] at hp;simp at hp
    | some i =>
     rw[hi] at hp
     simp at hp
     exact .pure h (v' := .pointer (some (a'.add fd.offset))) (by simp [Instr.fieldAt,run_underlying hu,hf,Instr.sureAddr,fieldPlace,run_sizeOf hi,hp]) (.ptr (ha.add _))
   · cases hv
  · cases hv
 · cases hv
theorem indexAd_does (h:R ι H w) {t:TypeId} {x x' i i':Value} (hx:VR ι x x') (hi:VR ι i i') {v:Value} (hv:indexAd P t x i=some v):Does P ι H w (Instr.indexAt t x' i') (v,H,[]):=by
 unfold indexAd at hv
 split at hv
 ·
  rename_i e a len c k n hu
  obtain rfl:=hi.int_inv
  obtain⟨a',c',rfl,hs⟩:=hx.sl_inv
  split at hv
  ·
   rename_i hn
   obtain⟨s,h1,rfl⟩:=Option.map_eq_some_iff.1 hv
   obtain⟨ti,h2,rfl⟩:=Option.map_eq_some_iff.1 h1
   refine .pure h (v' := .pointer (some (a'.add (n.toNat * ti.size)))) ?_ (.ptr ((hs.AR (by omega)).add _))
   simp [Instr.indexAt,asIntOf,run_underlying hu,hn.1,hn.2,run_sizeOf h2]
  · cases hv
 ·
  rename_i len e a k n hu
  obtain rfl:=hi.int_inv
  obtain⟨a',rfl,ha⟩:=hx.ptr_inv
  split at hv
  ·
   rename_i hn
   obtain⟨s,h1,rfl⟩:=Option.map_eq_some_iff.1 hv
   obtain⟨ti,h2,rfl⟩:=Option.map_eq_some_iff.1 h1
   refine .pure h (v' := .pointer (some (a'.add (n.toNat * ti.size)))) ?_ (.ptr (ha.add _))
   simp [Instr.indexAt,asIntOf,run_underlying hu,hn.1,hn.2,run_sizeOf h2,Instr.sureAddr]
  · cases hv
 · cases hv
theorem fieldA_does (h:R ι H w) {t:TypeId} {x x':Value} (hx:VR ι x x') {f:Nat} {v:Value} (hv:fieldA P t x f=some v):Does P ι H w (Instr.field t x' f) (v,H,[]):=by
 unfold fieldA at hv
 split at hv
 ·
  rename_i fs cs hu
  cases hx with
  | agg hn hc =>
   rename_i ds
   have hcd:AsR ι cs ds:=⟨hn,hc⟩
   split at hv
   ·
    rename_i fd hf
    split at hv
    ·
     rename_i d s hd hs
     obtain⟨ti,h2,rfl⟩:=Option.map_eq_some_iff.1 hs
     split at hv
     ·
      rename_i hg
      split at hv
      ·
       rename_i hle
       cases hv
       refine .pure h (v' := .agg (ds.extract fd.offset (fd.offset+ti.size))) (by simp [Instr.field,run_underlying hu,hf,asAgg,part,run_isAgg hd,hg,run_sizeOf h2]) (.agg (by simp [hn]) (fun i x y hx hy=>?_))
       rw[Array.getElem?_extract] at hx hy
       split at hx
       ·
        split at hy
        · exact hc _ x y hx hy
        · cases hy
       · cases hx
      · cases hv
     ·
      rename_i hg
      obtain⟨y,p,q⟩:=hcd.get hv
      exact .pure h (v':=y) (by simp [Instr.field,run_underlying hu,hf,asAgg,part,run_isAgg hd,hg,p]) q
    · cases hv
   · cases hv
 · cases hv
theorem indexA_does (h:R ι H w) {t:TypeId} {x x' i i':Value} (hx:VR ι x x') (hi:VR ι i i') {v:Value} (hv:indexA P t x i=some v):Does P ι H w (Instr.index t x' i') (v,H,[]):=by
 unfold indexA at hv
 split at hv
 ·
  rename_i s k n hu
  obtain rfl:=hi.int_inv
  obtain rfl:=hx.string_inv
  split at hv
  ·
   rename_i hn
   obtain⟨b,h1,rfl⟩:=Option.map_eq_some_iff.1 hv
   exact .pure h (v' := .int .u8 b.toNat) (by simp [Instr.index,asIntOf,run_underlying hu,hn,h1]) (.int _ _)
  · cases hv
 ·
  rename_i len e cs k n hu
  obtain rfl:=hi.int_inv
  cases hx with
  | agg hn hc =>
   rename_i ds
   have hcd:AsR ι cs ds:=⟨hn,hc⟩
   split at hv
   ·
    rename_i d s hd hs
    obtain⟨ti,h2,h3⟩:=Option.map_eq_some_iff.1 hs
    split at hv
    ·
     rename_i hg
     obtain⟨g1,g2,g3,g4⟩:=hg
     obtain⟨y,p,q⟩:=hcd.get hv
     refine .pure h (v':=y) ?_ q
     simp [Instr.index,asIntOf,run_underlying hu,g1,g2,run_sizeOf h2,h3,g4,part,run_isAgg hd,g3,p]
    · cases hv
   · cases hv
 · cases hv
theorem extract_does (h:R ι H w) {vs:Array Value} {x':Value} (hx:VR ι (.tuple vs) x') {i:Nat} {v:Value} (hv:vs[i]?=some v):Does P ι H w (Instr.extract x' i) (v,H,[]):=by
 cases hx with
 | tuple hn hc =>
  obtain⟨y,p,q⟩:=AsR.get (ι:=ι) ⟨hn,hc⟩ hv
  exact .pure h (v':=y) (by simp [Instr.extract,p]) q
end Go.AM

/- Cuts of slices and strings. -/
namespace Go.AM
open Go
variable {P : Program} {ι : Map} {H : Heap} {w : World}

/-- Bounds that may be there. -/
def OR (ι:Map):Option Value→Option Value→Prop
 | none,none=>True
 | some x,some y=>VR ι x y
 | _,_=>False
theorem bound_run {x x':Value} (hx:VR ι x x') {y d k y':Nat} (h:bound (some x) y d=some k) (hy:y≤y') (c:BoundsCode) (w:World):(Instr.sliceBound x' y' c).run P w = .ok k w∧k≤y:=by
 unfold bound at h
 split at h
 · rename_i e;cases e
 ·
  rename_i q n e
  cases e
  obtain rfl:=hx.int_inv
  split at h
  ·
   rename_i hn
   cases h
   exact⟨by simp [Instr.sliceBound,asIntOf,hn.1,show n≤(y':Int) by omega],by omega⟩
  · cases h
 · cases h
theorem bounds_run {lo lo' hi hi' mx mx':Option Value} (h1:OR ι lo lo') (h2:OR ι hi hi') (h3:OR ι mx mx') {len cap cap' m h l:Nat} (hl:len≤cap') (hc:cap<OPEN→cap'=cap)
  (em:(if mx.isSome then bound mx (if cap<OPEN then cap else len) cap else some cap)=some m)
  (eh:(if hi.isSome then bound hi (if mx.isSome then m else if cap<OPEN then cap else len) len else if mx.isSome then none else some len)=some h)
  (el:bound lo h 0=some l) (isSl:Bool) (w:World) :
  ∃ m',(Instr.sliceBounds isSl len cap' lo' hi' mx').run P w = .ok (l,h,m') w∧h≤m'∧l≤h∧(mx.isSome=true→m'=m∧m≤cap')∧(mx.isSome=false→m'=cap'∧m=cap):=by
 have hcap:(if cap<OPEN then cap else len)≤cap':=by split <;> rename_i q;(have:=hc q;omega);omega
 have low:(lo'=none∧l=0∧l≤h)∨∃ v',lo'=some v'∧(∀ c,(Instr.sliceBound v' h c).run P w = .ok l w)∧l≤h:=by
  cases lo with
  | none =>
   cases lo' with
   | none=>simp only [bound] at el;cases el;exact .inl ⟨rfl,rfl,by omega⟩
   | some _=>exact h1.elim
  | some x =>
   cases lo' with
   | none=>exact h1.elim
   | some x'=>exact .inr ⟨x',rfl,fun c=>(bound_run h1 el (Nat.le_refl _) c w).1,(bound_run (P:=P) h1 el (Nat.le_refl _) .sliceB w).2⟩
 have ll:l≤h:=by rcases low with⟨_,_,h⟩ | ⟨_,_,_,h⟩ <;> exact h
 cases mx with
 | none =>
  cases mx' with
  | some _=>exact h3.elim
  | none =>
   simp only [Option.isSome_none,Bool.false_eq_true,if_false,Option.some.injEq] at em eh
   subst em
   cases hi with
   | none =>
    cases hi' with
    | some _=>exact h2.elim
    | none =>
     simp only [Option.isSome_none,Bool.false_eq_true,if_false,Option.some.injEq] at eh
     subst eh
     refine⟨cap',?_,hl,ll,by simp,by simp⟩
     simp only [Instr.sliceBounds,Sem.run_bind,Sem.run_pure,Result.andThen_ok]
     rcases low with⟨rfl,rfl,_⟩ | ⟨v',rfl,lw,_⟩
     · rfl
     · simp [lw]
   | some x =>
    cases hi' with
    | none=>exact h2.elim
    | some x' =>
     simp only [Option.isSome_some,if_true] at eh
     obtain⟨q1,q2⟩:=bound_run (P:=P) h2 eh hcap (if isSl then BoundsCode.sliceAcap else BoundsCode.sliceAlen) w
     refine⟨cap',?_,by omega,ll,by simp,by simp⟩
     simp only [Instr.sliceBounds,Sem.run_bind,Sem.run_pure,Result.andThen_ok,q1]
     rcases low with⟨rfl,rfl,_⟩ | ⟨v',rfl,lw,_⟩
     · rfl
     · simp [lw]
 | some z =>
  cases mx' with
  | none=>exact h3.elim
  | some z' =>
   simp only [Option.isSome_some,if_true] at em eh
   obtain⟨p1,p2⟩:=bound_run (P:=P) h3 em hcap (if isSl then BoundsCode.slice3Acap else BoundsCode.slice3Alen) w
   cases hi with
   | none=>simp at eh
   | some x =>
    cases hi' with
    | none=>exact h2.elim
    | some x' =>
     simp only [Option.isSome_some,if_true] at eh
     obtain⟨q1,q2⟩:=bound_run (P:=P) h2 eh (Nat.le_refl m) BoundsCode.slice3B w
     refine⟨m,?_,q2,ll,fun _=>⟨rfl,by omega⟩,by simp⟩
     simp only [Instr.sliceBounds,Sem.run_bind,Result.andThen_ok,p1,q1]
     rcases low with⟨rfl,rfl,_⟩ | ⟨v',rfl,lw,_⟩
     · rfl
     · simp [lw]
theorem sliceA_does (h:R ι H w) {t:TypeId} {x x':Value} {lo lo' hi hi' mx mx':Option Value} (hx:VR ι x x') (h1:OR ι lo lo') (h2:OR ι hi hi') (h3:OR ι mx mx') {v:Value} (hv:sliceA P H t x lo hi mx=some v) :
  Does P ι H w (Instr.sliceAt t x' lo' hi' mx') (v,H,[]):=by
 unfold sliceA at hv
 split at hv
 ·
  rename_i s hu
  obtain rfl:=hx.string_inv
  split at hv
  · cases hv
  ·
   rename_i hm
   have e1:mx=none:=by cases mx <;> simp_all
   subst e1
   have e2:mx'=none:=by cases mx' with | none=>rfl | some _=>exact h3.elim
   subst e2
   simp only [Option.bind_eq_bind,Option.bind_eq_some_iff,Option.some.injEq] at hv
   obtain⟨hh,eh,l,el,rfl⟩:=hv
   have eh':(if hi.isSome then bound hi (if (none:Option Value).isSome then s.size else if s.size<OPEN then s.size else s.size) s.size else if (none:Option Value).isSome then none else some s.size)=some hh:=by
    cases hi with
    | none=>simpa [bound] using eh
    | some q=>simpa using eh
   obtain⟨m',q1,q2,q3,q4,q5⟩:=bounds_run (P:=P) h1 h2 h3 (len:=s.size) (cap:=s.size) (cap':=s.size) (m:=s.size) (Nat.le_refl _) (fun _=>rfl) (by simp) eh' el false w
   refine .pure h (v' := .string (s.extract l hh)) ?_ (.string _)
   simp [Instr.sliceAt,Instr.slice,run_underlying hu,q1]
 ·
  rename_i e a len cap hu
  split at hv
  ·
   rename_i hg
   unfold cutA at hv
   simp only [Option.bind_eq_bind,Option.bind_eq_some_iff] at hv
   obtain⟨sz,hsz,m,em,hh,eh,l,el,hv⟩:=hv
   obtain⟨ti,hti,rfl⟩:=Option.map_eq_some_iff.1 hsz
   cases a with
   | none =>
    obtain⟨rfl,rfl,rfl⟩:=hx.nilsl_inv
    cases hv
    obtain⟨m',q1,q2,q3,q4,q5⟩:=bounds_run (P:=P) h1 h2 h3 (len:=0) (cap:=0) (cap':=0) (Nat.le_refl _) (fun _=>rfl) em eh el true w
    have hm0:m'=0:=by
     cases hmx:mx.isSome with
     | true=>have:=q4 hmx;omega
     | false=>exact(q5 hmx).1
    refine .pure h (v' := .slice none 0 0) ?_ .nilsl
    have e1:hh=0:=by omega
    have e2:l=0:=by omega
    subst hm0 e1 e2
    simp [Instr.sliceAt,Instr.slice,run_underlying hu,q1,run_sizeOf hti]
   | some a =>
    obtain⟨a',c',rfl,hs⟩:=hx.sl_inv
    have hs0:=hs
    obtain⟨s1,s2,s3,L,s4,s5,s6⟩:=hs
    obtain⟨m',q1,q2,q3,q4,q5⟩:=bounds_run (P:=P) h1 h2 h3 (len:=len) (cap:=cap) (cap':=c') s2 s3 em eh el true w
    simp only at hv
    split at hv
    · cases hv
    ·
     rename_i hz
     cases hv
     refine .pure h (v' := .slice (some (if m'=l then a' else a'.add (l * ti.size))) (hh - l) (m' - l)) ?_ ?_
     · by_cases e:m'=l <;> simp [Instr.sliceAt,Instr.slice,run_underlying hu,q1,run_sizeOf hti,e]
     ·
      have key:SR ι (a.add (l * ti.size)) (hh - l) (if m<OPEN then m - l else m) (if m'=l then a' else a'.add (l * ti.size)) (m' - l):=by
       have hadd:a.add (l * ti.size)=⟨a.block,a.off+l * ti.size,none⟩:=add_plain a s1 _
       rw[hadd]
       refine⟨rfl,by omega,?_,L,s4,?_,?_⟩
       ·
        intro hc
        split at hc
        ·
         rename_i hmo
         rw[if_pos hmo]
         cases hmx:mx.isSome with
         | true=>rw[(q4 hmx).1]
         | false =>
          obtain⟨r1,r2⟩:=q5 hmx
          subst r2
          rw[r1,s3 hmo]
        · exact absurd hc (by omega)
       ·
        intro hc
        rw[if_neg (by omega)]
        have hc':c'≠0:=by
         cases hmx:mx.isSome with
         | true=>have:=q4 hmx;omega
         | false=>have:=q5 hmx;omega
        rw[s5 hc',add_plain _ rfl]
        simp [Nat.add_assoc]
       ·
        intro hc
        have hmo:¬ m<OPEN:=by
         intro hmo
         rw[if_pos hmo] at hc
         omega
        have hmx:mx.isSome=false:=by
         cases hmx:mx.isSome with
         | false=>rfl
         | true=>exact absurd (Or.inr ⟨hmx,by omega⟩) hz
        obtain⟨r1,r2⟩:=q5 hmx
        subst r2
        have hcap:OPEN≤m:=by omega
        have hext:=s6 hcap
        simp only [decide_eq_true_eq,Bool.or_eq_true] at hg
        have hg2:eszB P H e (some a)=true:=hg.resolve_left hmo
        unfold eszB at hg2
        simp only at hg2
        split at hg2
        ·
         rename_i B s hB hs'
         have e1:B.esz=s:=by simpa using hg2
         have e2:s=ti.size:=by rw[hs'] at hsz;exact Option.some.inj hsz
         obtain⟨L',hL',hbr⟩:=h.live _ _ hB
         rw[s4] at hL'
         cases hL'
         have e3:L.esz=ti.size:=hbr.esz.trans (e1.trans e2)
         rw[r1,← hext,e3]
         have e4:(c' - l) * ti.size+l * ti.size=c' * ti.size:=by rw[← Nat.add_mul];congr 1;omega
         simp only
         omega
        · cases hg2
      split
      · rename_i e;rw[if_pos e] at key;exact .sl key
      · rename_i e;rw[if_neg e] at key;exact .sl key
  · cases hv
 ·
  rename_i n e a hu
  split at hv
  · cases hv
  ·
   rename_i hcd
   simp only [not_or,Bool.not_eq_true] at hcd
   obtain⟨hcd1,hcd2⟩:=hcd
   have e1:mx=none:=by cases mx <;> simp_all
   subst e1
   have e2:mx'=none:=by cases mx' with | none=>rfl | some _=>exact h3.elim
   subst e2
   simp only [Option.bind_eq_bind,Option.bind_eq_some_iff,Option.some.injEq] at hv
   obtain⟨sz,hsz,hh,eh,l,el,rfl⟩:=hv
   obtain⟨ti,hti,rfl⟩:=Option.map_eq_some_iff.1 hsz
   obtain⟨a',rfl,s1,L,s4,s5⟩:=hx.ptr_inv
   have eh':(if hi.isSome then bound hi (if (none:Option Value).isSome then n else if n<OPEN then n else n) n else if (none:Option Value).isSome then none else some n)=some hh:=by
    cases hi with
    | none=>simpa [bound] using eh
    | some q=>simpa using eh
   obtain⟨m',q1,q2,q3,q4,q5⟩:=bounds_run (P:=P) h1 h2 h3 (len:=n) (cap:=n) (cap':=n) (m:=n) (Nat.le_refl _) (fun _=>rfl) (by simp) eh' el false w
   obtain⟨rfl,_⟩:=q5 rfl
   refine .pure h (v' := .slice (some (if m'=l then a' else a'.add (l * ti.size))) (hh - l) (m' - l)) ?_ ?_
   · simp only [Instr.sliceAt,Sem.run_bind,run_underlying hu,Result.andThen_ok,Instr.sureAddr,Sem.run_pure,q1,run_sizeOf hti]
   ·
    have key:SR ι (a.add (l * ti.size)) (hh - l) (m' - l) (if m'=l then a' else a'.add (l * ti.size)) (m' - l):=by
     have hadd:a.add (l * ti.size)=⟨a.block,a.off+l * ti.size,none⟩:=add_plain a s1 _
     rw[hadd]
     refine⟨rfl,by omega,fun _=>rfl,L,s4,fun hc=>?_,fun hc=>absurd hc (by omega)⟩
     rw[if_neg (by omega),s5,add_plain _ rfl]
     simp [Nat.add_assoc]
    exact .sl key
 · cases hv
end Go.AM

/- append, copy. -/
namespace Go.AM
open Go
variable {P : Program} {ι : Map} {H : Heap} {w : World}

/-- What stands behind append's second operand. -/
theorem src_run (h:R ι H w) {x x':Value} (hx:VR ι x x') {sz n:Nat} {l:List Value} (hn:lenA x=some n) (hl:srcCells H sz x=some l) :
  ∃ l':List Value,AsR ι l.toArray l'.toArray∧l.length=n * sz∧(Builtin.lenOf x').run P w = .ok n w∧(Builtin.firstCells sz n x').run P w = .ok l'.toArray w∧(∀ a k c,x' = .slice (some a) k c→∀ j v,l'[j]?=some v→w.cell? (a.add j)=some v):=by
 unfold srcCells at hl
 unfold lenA at hn
 split at hl
 ·
  cases hl
  obtain⟨rfl,rfl,rfl⟩:=hx.nilsl_inv
  cases hn
  exact⟨[],⟨rfl,fun i x y hx=>by simp at hx⟩,by simp,by simp [Builtin.lenOf],by simp [Builtin.firstCells],fun a k c e=>by cases e⟩
 ·
  rename_i b k c
  obtain⟨b',c',rfl,hs⟩:=hx.sl_inv
  cases hn
  split at hl
  ·
   rename_i hk
   cases hl
   subst hk
   exact⟨[],⟨rfl,fun i x y hx=>by simp at hx⟩,by simp,by simp [Builtin.lenOf],by simp [Builtin.firstCells,loadCells,loadCellsFrom],fun a k c e j v hv=>by simp at hv⟩
  ·
   rename_i hk
   obtain⟨l',q1,q2,q3,q4,q5⟩:=cells_load (P:=P) h (hs.AR (by omega)) hl
   refine⟨l',q4,q2,by simp [Builtin.lenOf],by simpa [Builtin.firstCells] using q3,fun a k c e=>?_⟩
   cases e
   exact q5
 ·
  rename_i s
  obtain rfl:=hx.string_inv
  cases hn
  split at hl
  ·
   rename_i hz
   subst hz
   cases hl
   refine⟨s.data.toList.map fun b => .int .u8 b.toNat,⟨rfl,fun i x y hx hy=>?_⟩,by simp,by simp [Builtin.lenOf],?_,fun a k c e=>by cases e⟩
   ·
    rw[hx] at hy
    cases hy
    simp only [List.getElem?_toArray,List.getElem?_map,Option.map_eq_some_iff] at hx
    obtain⟨b,_,rfl⟩:=hx
    exact .int _ _
   ·
    simp only [Builtin.firstCells,ByteArray.extract_zero_size]
    rw[show(s.data.toList.map fun b:UInt8=>Value.int .u8 b.toNat).toArray=s.data.map fun b=>Value.int .u8 b.toNat by apply Array.ext';simp]
    rfl
  · cases hl
 · cases hl
theorem first_zero {x x':Value} (hx:VR ι x x') (hn:lenA x=some 0) (sz:Nat) (w:World):(Builtin.lenOf x').run P w = .ok 0 w∧(Builtin.firstCells sz 0 x').run P w = .ok #[] w:=by
 unfold lenA at hn
 split at hn
 ·
  rename_i a k c
  cases hn
  cases a with
  | none=>obtain⟨rfl,_,_⟩:=hx.nilsl_inv;exact⟨by simp [Builtin.lenOf],by simp [Builtin.firstCells]⟩
  | some a=>obtain⟨a',c',rfl,_⟩:=hx.sl_inv;exact⟨by simp [Builtin.lenOf],by simp [Builtin.firstCells,loadCells,loadCellsFrom]⟩
 ·
  rename_i s
  obtain rfl:=hx.string_inv
  have h0:s.size=0:=Option.some.inj hn
  refine⟨by simp [Builtin.lenOf,h0],?_⟩
  simp [Builtin.firstCells]
 · cases hn
theorem isRow_inv {t:Option TypeId} (h:isRow P t=true):∃ u,t=some u∧(P.underlying u=some .string∨∃ e,P.underlying u=some (.slice e)):=by
 unfold isRow at h
 split at h
 ·
  rename_i e hh
  obtain⟨u,rfl,hu⟩:=Option.bind_eq_some_iff.1 hh
  exact⟨u,rfl,.inr ⟨_,hu⟩⟩
 ·
  rename_i hh
  obtain⟨u,rfl,hu⟩:=Option.bind_eq_some_iff.1 hh
  exact⟨u,rfl,.inl hu⟩
 · cases h
theorem append_grow {ts:Array TypeId} {t e:TypeId} {i:TypeInfo} {z:Value} (h0:ts[0]?=some t) (hu:P.underlying t=some (.slice e)) (h1:isRow P ts[1]?=true) (hi:P.info? e=some i) (hz:i.zero=some z) {x:Value} {n:Nat} (base:Option Addr) (sLen sCap:Nat) (ty:TypeId)
  (hn:(Builtin.lenOf x).run P w = .ok n w) {olds news:List Value} (hf:(Builtin.firstCells i.size n x).run P w.drew = .ok news.toArray w.drew) (hfo:(Builtin.firstCells i.size sLen (.slice base sLen sCap)).run P w.drew = .ok olds.toArray w.drew)
  (hg:sCap<sLen+n) (h63:((sLen+n:Nat):Int)≤9223372036854775807) (hfit:Builtin.nextslicecap (sLen+n) sCap * i.bytes≤281474976710656) :
  (Builtin.append_ ts ty #[.slice base sLen sCap,x]).run P w =
   .ok (.slice (some ⟨w.heap.size,0,none⟩) (sLen+n) (grownCap w (sLen+n) sCap e))
    (w.drew.alloc (.cells (olds.toArray++news.toArray++Builtin.zeroCells z.cells (grownCap w (sLen+n) sCap e - (sLen+n))) e)):=by
 have hn':¬ (sLen+n≤sCap):=by omega
 have h63':¬ (9223372036854775807<((sLen:Int)+(n:Int))):=by omega
 have h48':¬ (281474976710656<Builtin.nextslicecap (sLen+n) sCap * i.bytes):=by omega
 obtain⟨u,e1,e2⟩:=isRow_inv h1
 rcases e2 with e2 | ⟨e',e2⟩
 all_goals
  simp [Builtin.append_,h0,e1,run_underlying hu,run_underlying e2,sizeOf,typeInfo,zeroValue,hi,hz,hn,hn',h63',h48',Question.forced,hf,hfo,newRow,grownCap]
  congr 2
  apply Array.ext'
  simp [List.append_assoc]
theorem append_room {ts:Array TypeId} {t e:TypeId} {i:TypeInfo} (h0:ts[0]?=some t) (hu:P.underlying t=some (.slice e)) (h1:isRow P ts[1]?=true) (hi:P.info? e=some i) {x:Value} {n:Nat} (base:Option Addr) (sLen sCap:Nat) (ty:TypeId)
  (hn:(Builtin.lenOf x).run P w = .ok n w) {news:List Value} (hf:(Builtin.firstCells i.size n x).run P w = .ok news.toArray w) (hg:sLen+n≤sCap) {w':World}
  (hs:∀ a,base=some a→(storeCells (a.add (sLen * i.size)) news).run P w = .ok () w') (hs0:base=none→w'=w) :
  (Builtin.append_ ts ty #[.slice base sLen sCap,x]).run P w = .ok (.slice base (sLen+n) sCap) w':=by
 obtain⟨u,e1,e2⟩:=isRow_inv h1
 cases base with
 | none =>
  obtain rfl:=hs0 rfl
  rcases e2 with e2 | ⟨e',e2⟩
  all_goals simp [Builtin.append_,h0,e1,run_underlying hu,run_underlying e2,sizeOf,typeInfo,hi,hn,hg,hf]
 | some a =>
  have hs':=hs a rfl
  rcases e2 with e2 | ⟨e',e2⟩
  all_goals simp [Builtin.append_,h0,e1,run_underlying hu,run_underlying e2,sizeOf,typeInfo,hi,hn,hg,hf,hs']
theorem R.drew (h:R ι H w):R ι H w.drew:=⟨h.dom,fun b B hb=>let ⟨L,a,c⟩:=h.live b B hb;⟨L,a,⟨c.esz,c.off,c.len,c.shut,c.mapo,c.obj⟩⟩,h.apart⟩
theorem zeroCells_size (z:Array Value) (n:Nat):(Builtin.zeroCells z n).size=n * z.size:=by simp [Builtin.zeroCells]
theorem grownCap_ge (w:World) (need old:Nat) (e:TypeId):need≤grownCap w need old e:=by simp [grownCap,Question.cut]
/-- A new row out of what was there and what came. -/
theorem grow_does (h:R ι H w) {ts:Array TypeId} {t e:TypeId} {i:TypeInfo} {z:Value} (h0:ts[0]?=some t) (hu:P.underlying t=some (.slice e)) (h1:isRow P ts[1]?=true) (hi:P.info? e=some i) (hz:i.zero=some z) (hzs:z.cells.size=i.size) {x:Value} {n:Nat} (base:Option Addr) (sLen sCap:Nat) (ty:TypeId)
  (hn:(Builtin.lenOf x).run P w = .ok n w) {old new olds news:List Value} (hf:(Builtin.firstCells i.size n x).run P w.drew = .ok news.toArray w.drew) (hfo:(Builtin.firstCells i.size sLen (.slice base sLen sCap)).run P w.drew = .ok olds.toArray w.drew)
  (ho:AsR ι old.toArray olds.toArray) (hw:AsR ι new.toArray news.toArray) (lo:old.length=sLen * i.size) (ln:new.length=n * i.size)
  (hg:sCap<sLen+n) (h63:sLen+n≤1099511627776) (hb:(sLen+n) * i.bytes≤1099511627776) (hne:i.size≠0) :
  Does P ι H w (Builtin.append_ ts ty #[.slice base sLen sCap,x]) (.slice (some ⟨H.next,0,none⟩) (sLen+n) OPEN,H.make ⟨old++new,i.size,false,true⟩,[]):=by
 have hrun:=append_grow (P:=P) h0 hu h1 hi hz base sLen sCap ty hn hf hfo hg (by omega) (growslice_fits hg (by omega))
 have hge:=grownCap_ge w (sLen+n) sCap e
 have e1:=ho.1
 have e2:=hw.1
 simp only [List.size_toArray] at e1 e2
 generalize hC:(olds.toArray++news.toArray++Builtin.zeroCells z.cells (grownCap w (sLen+n) sCap e - (sLen+n)))=C at hrun
 have hCs:C.size=grownCap w (sLen+n) sCap e * i.size:=by
  rw[← hC]
  simp only [Array.size_append,List.size_toArray,zeroCells_size,hzs]
  rw[← e1,← e2,lo,ln,← Nat.add_mul,← Nat.add_mul]
  congr 1
  omega
 have hcr:CR ι (old++new) C:=by
  refine⟨by rw[hCs,List.length_append,lo,ln,← Nat.add_mul];exact Nat.mul_le_mul_right _ hge,fun k v hv=>?_⟩
  rw[← hC]
  rw[List.getElem?_append] at hv
  simp only [Array.getElem?_append,Array.size_append,List.size_toArray]
  split at hv
  ·
   rename_i hk
   obtain⟨y,p,q⟩:=ho.get (i:=k) (x:=v) (by rw[List.getElem?_toArray];exact hv)
   exact⟨y,by rw[if_pos (by omega),if_pos (by omega)];exact p,q⟩
  ·
   rename_i hk
   obtain⟨y,p,q⟩:=hw.get (i:=k - old.length) (x:=v) (by rw[List.getElem?_toArray];exact hv)
   have hkl:k - old.length<news.length:=by
    have:=(Array.getElem?_eq_some_iff.1 p).1
    simpa using this
   refine⟨y,?_,q⟩
   rw[if_pos (by omega),if_neg (by omega),← e1]
   exact p
 obtain⟨r1,r2,r3⟩:=make_new h (l:=old++new) (esz:=i.size) (opn:=true) (C:=C) (el:=e) (fr:=(0,0)) (.inl rfl) hcr (fun x=>by cases x) (w':=w.drew.alloc (.cells C e)) rfl rfl rfl rfl (by simp [Blk.isMap,hne])
 refine⟨_,_,_,hrun,.sl ⟨rfl,hge,fun hc=>absurd hc (Nat.lt_irrefl _),⟨w.heap.size,0,i.size,C.size⟩,by simp [Map.set],fun _=>by simp,fun _=>?_⟩,r1,r2⟩
 simp only
 omega
end Go.AM

/- append in the room behind a row: the row is another one from then on. -/
namespace Go.AM
open Go
variable {P : Program} {ι : Map} {H : Heap} {w : World}

theorem blk_take (H:Heap) (a b:Nat) (N:Blk):((H.set a none).make N).blk b=if b=H.next then some N else if b=a then none else H.blk b:=rfl
theorem takeover (h:R ι H w) {a a':Addr} (ha:AR ι a a') {B:Blk} (hB:H.blk a.block=some B) (hrd:B.rd=false) {k:Nat} (hk:a.off+k≤B.cells.length) {L:Loc} (hmp:B.isMap=false) (hne:B.esz≠0) (hL:ι a.block=some L) {new news:List Value} (hw:AsR ι new.toArray news.toArray) (hone:new.all Value.oneCell'=true)
  (hroom:a.off+k+new.length≤L.ext) :
  ∃ w',(storeCells (a'.add k) news).run P w = .ok () w' ∧
   R (ι.set H.next ⟨L.blk,L.off+a.off,B.esz,L.ext - a.off⟩) ((H.set a.block none).make ⟨(B.cells.drop a.off).take k++new,B.esz,false,true⟩) w' ∧
   Step ι H w (ι.set H.next ⟨L.blk,L.off+a.off,B.esz,L.ext - a.off⟩) ((H.set a.block none).make ⟨(B.cells.drop a.off).take k++new,B.esz,false,true⟩) w':=by
 obtain⟨hspot,L',hL2,rfl⟩:=ha
 rw[hL] at hL2
 cases hL2
 obtain⟨L',hL2,hb⟩:=h.live _ _ hB
 rw[hL] at hL2
 cases hL2
 obtain⟨C,el,lo,hi,h1,h2,h3,h4⟩:=hb.obj hmp
 obtain⟨h5,h6⟩:=h4 hrd
 obtain⟨hsz,hw2⟩:=hw.of_list
 have hone':∀ v ∈ news,v.oneCell'=true:=by
  intro v hv'
  obtain⟨i,hi,rfl⟩:=List.getElem_of_mem hv'
  rw[(hw2 i new[i] _ (List.getElem?_eq_getElem (by omega)) (List.getElem?_eq_getElem hi)).oneCell]
  exact List.all_eq_true.1 hone _ (List.getElem_mem _)
 have hrun:=run_storeCells_free (P:=P) L.blk (L.off+a.off+k) el (lo,hi) news 0 C w h1 (fun j hj1 hj2 hh=>by rcases h6 with h6 | h6 <;> (simp only at hh;omega)) (by omega) hone'
 rw[Nat.add_zero] at hrun
 have hadd:(⟨L.blk,L.off+a.off,none⟩:Addr).add k=⟨L.blk,L.off+a.off+k,none⟩:=add_plain _ rfl k
 refine⟨_,by rw[hadd];exact hrun,?_,?_⟩
 all_goals generalize hw':w.setRow L.blk _=w'
 ·
  have hlt:∀ b B,H.blk b=some B→b<H.next:=fun b B hb=>let ⟨L,hL,_⟩:=h.live b B hb;h.dom b L hL
  have hle:ι.le (ι.set H.next ⟨L.blk,L.off+a.off,B.esz,L.ext - a.off⟩):=Map.le_set h.dom
  have hcs:C.toList.length=C.size:=Array.length_toList
  constructor
  ·
   intro b L' hb'
   simp only [Map.set] at hb'
   show b<H.next+1
   split at hb'
   · omega
   · have:=h.dom b L' hb';omega
  ·
   intro b B' hb'
   rw[blk_take] at hb'
   by_cases e:b=H.next
   ·
    rw[if_pos e] at hb'
    cases hb'
    subst e
    refine⟨⟨L.blk,L.off+a.off,B.esz,L.ext - a.off⟩,by simp [Map.set],⟨rfl,fun _ h0=>absurd h0 hne,fun _=>?_,fun _ x=>by simp at x,fun hm=>by simp [Blk.isMap,hne] at hm,fun _=>?_⟩⟩
    · simp only [List.length_append,List.length_take,List.length_drop];omega
    ·
     refine⟨_,el,lo,hi,by rw[← hw'];exact setRow_heap w L.blk C _ el (lo,hi) h1,?_,?_,?_⟩
     · simp only [List.length_append,List.length_take,List.length_drop,List.size_toArray];omega
     ·
      intro i v hv
      have hbl:=hb.len hmp
      rw[List.getElem?_append] at hv
      rw[List.getElem?_toArray]
      simp only [List.getElem?_append,List.length_append,List.length_take]
      have hlk:((B.cells.drop a.off).take k).length=k:=by rw[List.length_take,List.length_drop];omega
      rw[hlk] at hv
      split at hv
      ·
       rename_i hi'
       rw[List.getElem?_take,if_pos hi',List.getElem?_drop] at hv
       obtain⟨v',p,q⟩:=h3 _ _ hv
       refine⟨v',?_,q.mono hle⟩
       rw[if_pos (by omega),if_pos (by omega),List.getElem?_take,if_pos (by omega),Array.getElem?_toList,← p]
       congr 1
       omega
      ·
       rename_i hi'
       obtain⟨y,p,q⟩:=hw.get (i:=i - k) (x:=v) (by rw[List.getElem?_toArray];exact hv)
       refine⟨y,?_,q.mono hle⟩
       have hyl:i - k<news.length:=by
        have:=(Array.getElem?_eq_some_iff.1 p).1
        simpa using this
       rw[if_pos (by omega),if_neg (by omega)]
       rw[List.getElem?_toArray] at p
       rw[← p]
       congr 1
       omega
     ·
      intro _
      have hbl:=hb.len hmp
      refine⟨?_,?_⟩
      ·
       simp only [List.length_append,List.length_take,List.length_drop,List.size_toArray]
       omega
      ·
       rcases h6 with h6 | h6
       · exact .inl h6
       ·
        refine .inr ?_
        simp only [List.length_append,List.length_take,List.length_drop,List.size_toArray] at *
        omega
   ·
    rw[if_neg e] at hb'
    split at hb'
    · cases hb'
    ·
     rename_i e2
     obtain⟨L2,hL2,hb2⟩:=h.live b B' hb'
     refine⟨L2,hle _ _ hL2,hb2.mono hle (by rw[← hw'];exact setRow_other w L.blk L2.blk _ (fun x=>h.apart a.block b B B' L L2 (fun y=>e2 y.symm) hB hb' hL hL2 hrd x.symm))⟩
  ·
   intro b b' B1 B2 L1 L2 hne hb1 hb2 hl1 hl2 hr
   rw[blk_take] at hb1 hb2
   simp only [Map.set] at hl1 hl2
   by_cases e1:b=H.next
   ·
    rw[if_pos e1] at hl1
    cases hl1
    have e2:b'≠H.next:=fun x=>hne (e1.trans x.symm)
    rw[if_neg e2] at hb2 hl2
    split at hb2
    · cases hb2
    ·
     rename_i e3
     exact h.apart a.block b' B B2 L L2 (fun y=>e3 y.symm) hB hb2 hL hl2 hrd
   ·
    rw[if_neg e1] at hb1 hl1
    split at hb1
    · cases hb1
    ·
     rename_i e3
     by_cases e2:b'=H.next
     ·
      rw[if_pos e2] at hl2
      cases hl2
      exact fun x=>h.apart b a.block B1 B L1 L e3 hb1 hB hl1 hL hr x
     ·
      rw[if_neg e2] at hb2 hl2
      split at hb2
      · cases hb2
      · exact h.apart b b' B1 B2 L1 L2 hne hb1 hb2 hl1 hl2 hr
 ·
  refine⟨Map.le_set h.dom,Nat.le_succ _,by rw[← hw'];rfl,by rw[← hw'];rfl,by rw[← hw'];rfl,by rw[← hw'];simp [World.setRow],fun c hc ht=>?_,fun c hc => .inl ?_,fun b B' hb hr=>?_,fun b L' hb=>?_⟩
  ·
   rw[← hw']
   exact setRow_other w L.blk c _ (fun e=>ht ⟨a.block,B,L,hB,hL,hrd,e.symm⟩)
  ·
   obtain⟨b,B',L',p,q,r,s⟩:=hc
   rw[blk_take] at p
   simp only [Map.set] at q
   by_cases e1:b=H.next
   ·
    rw[if_pos e1] at q
    cases q
    exact⟨a.block,B,L,hB,hL,hrd,s⟩
   ·
    rw[if_neg e1] at p q
    split at p
    · cases p
    · exact⟨b,B',L',p,q,r,s⟩
  ·
   rw[blk_take] at hb
   split at hb
   · cases hb;cases hr
   ·
    split at hb
    · cases hb
    · exact hb
  ·
   simp only [Map.set] at hb
   split at hb
   · exact .inr (by omega)
   · exact .inl hb
end Go.AM

/- append and copy, whole. -/
namespace Go.AM
open Go
variable {P : Program} {ι : Map} {H : Heap} {w : World}

theorem first_some (h:R ι H w) {a a':Addr} {n c c':Nat} (hs:SR ι a n c a' c') {sz k:Nat} {l:List Value} (hl:(if k=0 then some [] else H.cells a (k * sz))=some l) (hk:k≤n) (W:World) (hW:W.heap=w.heap) :
  ∃ l':List Value,AsR ι l.toArray l'.toArray∧l.length=k * sz∧(Builtin.firstCells sz k (.slice (some a') n c')).run P W = .ok l'.toArray W:=by
 have hR:R ι H W:=⟨h.dom,fun b B hb=>let ⟨L,x,y⟩:=h.live b B hb;⟨L,x,y.mono (Map.le.refl ι) (by rw[hW])⟩,h.apart⟩
 split at hl
 ·
  rename_i e
  subst e
  cases hl
  exact⟨[],⟨rfl,fun i x y hx=>by simp at hx⟩,by simp,by simp [Builtin.firstCells,loadCells,loadCellsFrom]⟩
 ·
  obtain⟨l',q1,q2,q3,q4,q5⟩:=cells_load (P:=P) hR (hs.AR (by omega)) hl
  exact⟨l',q4,q2,by simpa [Builtin.firstCells] using q3⟩
theorem appendA_does (h:R ι H w) {ts:Array TypeId} {t e:TypeId} (h0:ts[0]?=some t) (hu:P.underlying t=some (.slice e)) (h1:isRow P ts[1]?=true) {s s' x x':Value} (hs:VR ι s s') (hx:VR ι x x') {f:Eff} (hf:appendA P H e s x=some f) (ty:TypeId) :
  Does P ι H w (Builtin.append_ ts ty #[s',x']) f∧Keeps H f.2.1 f.2.2:=by
 unfold appendA at hf
 simp only [Option.bind_eq_bind,Option.bind_eq_some_iff] at hf
 obtain⟨i,hi,n,hn,hf⟩:=hf
 split at hf
 ·
  rename_i base len cap
  split at hf
  ·
   rename_i hn0
   subst hn0
   cases hf
   obtain⟨z1,z2⟩:=first_zero (P:=P) hx hn i.size w
   refine⟨?_,Keeps.refl H⟩
   cases base with
   | none =>
    obtain⟨rfl,rfl,rfl⟩:=hs.nilsl_inv
    exact .pure h (append_room (news := []) h0 hu h1 hi none 0 0 ty z1 (by simpa using z2) (Nat.le_refl _) (fun a ha=>by cases ha) (fun _=>rfl)) .nilsl
   | some a =>
    obtain⟨a',c',rfl,hsr⟩:=hs.sl_inv
    exact .pure h (append_room (news := []) h0 hu h1 hi (some a') len c' ty z1 (by simpa using z2) hsr.2.1 (fun a ha=>by simp [storeCells]) (fun x=>by cases x)) hs
  ·
   rename_i hn0
   simp only [Option.bind_eq_some_iff] at hf
   obtain⟨new,hnew,hf⟩:=hf
   split at hf
   · cases hf
   ·
    rename_i hg
    simp only [not_or,Decidable.not_not] at hg
    obtain⟨g1,g2,g3,g4,g5⟩:=hg
    obtain⟨z,hz,hzs⟩:=Option.map_eq_some_iff.1 g3
    obtain⟨news,q1,q2,q3,q4,q5⟩:=src_run (P:=P) h hx hn hnew
    obtain⟨news',q1',q2',q3',q4',q5'⟩:=src_run (P:=P) h.drew hx hn hnew
    split at hf
    ·
     -- nothing ahead
     cases hf
     obtain⟨rfl,rfl,rfl⟩:=hs.nilsl_inv
     have:=grow_does (P:=P) h h0 hu h1 hi hz hzs none 0 0 ty q3 (old := []) (olds := []) q4' (by simp [Builtin.firstCells]) ⟨rfl,fun i x y hx=>by simp at hx⟩ q1' (by simp) q2' (by omega) (by omega) (by omega) g1
     exact⟨by simpa using this,Keeps.make _ _⟩
    ·
     rename_i a
     obtain⟨a',c',rfl,hsr⟩:=hs.sl_inv
     have hsr0:=hsr
     obtain⟨s1,s2,s3,L,s4,s5,s6⟩:=hsr
     split at hf
     ·
      -- room of a known size
      rename_i hc
      simp only [Option.bind_eq_some_iff,Option.some.injEq] at hf
      obtain⟨H',hput,rfl⟩:=hf
      have hcap:c'=cap:=s3 hc.1
      subst hcap
      have ha:AR ι a a':=⟨s1,L,s4,s5 (by omega)⟩
      obtain⟨w',r1,r2,r3⟩:=put_store (P:=P) h (ha.add (len * i.size)) hput q1
      have hb2:(a.add (len * i.size)).block=a.block:=by rw[add_plain _ s1]
      refine⟨⟨ι,_,w',append_room h0 hu h1 hi (some a') len c' ty q3 q4 hc.2 (fun b hb=>by cases hb;exact r1) (fun x=>by cases x),.sl ⟨s1,hc.2,fun _=>rfl,L,s4,s5,fun x=>absurd hc.1 (by omega)⟩,r2,r3⟩,?_⟩
      have:=Keeps.put hput
      rw[hb2] at this
      exact this
     ·
      rename_i hc
      split at hf
      ·
       -- none: a new row
       rename_i hc2
       simp only [Option.bind_eq_some_iff,Option.some.injEq] at hf
       obtain⟨old,hold,rfl⟩:=hf
       have hcap:c'=cap:=s3 hc2
       obtain⟨olds,p1,p2,p3⟩:=first_some (P:=P) h hsr0 hold (Nat.le_refl _) w.drew rfl
       exact⟨grow_does h h0 hu h1 hi hz hzs (some a') len c' ty q3 q4' p3 p1 q1' p2 q2' (by omega) (by omega) (by omega) g1,Keeps.make _ _⟩
      ·
       rename_i hc2
       simp only [Option.bind_eq_some_iff] at hf
       obtain⟨B,hB,hf⟩:=hf
       split at hf
       · cases hf
       ·
        rename_i hg
        simp only [not_or,Bool.not_eq_true,Decidable.not_not] at hg
        obtain⟨k1,k2,k3,k4⟩:=hg
        obtain⟨L',hL',hbr⟩:=h.live _ _ hB
        rw[s4] at hL'
        cases hL'
        have hext:=s6 (by omega)
        have hesz:L.esz=i.size:=hbr.esz.trans k3
        rw[hesz] at hext
        have hmp:B.isMap=false:=by simp [Blk.isMap,k3,g1]
        have hbl:=hbr.len hmp
        have hsz0:0<i.size:=Nat.pos_of_ne_zero g1
        split at hf
        ·
         -- over what is there
         rename_i hc3
         simp only [Option.bind_eq_some_iff,Option.some.injEq] at hf
         obtain⟨H',hput,rfl⟩:=hf
         have hroom:len+n≤c':=by
          have:(len+n) * i.size≤c' * i.size:=by omega
          exact Nat.le_of_mul_le_mul_right this hsz0
         have ha:AR ι a a':=⟨s1,L,s4,s5 (by omega)⟩
         obtain⟨w',r1,r2,r3⟩:=put_store (P:=P) h (ha.add (len * i.size)) hput q1
         have hb2:(a.add (len * i.size)).block=a.block:=by rw[add_plain _ s1]
         refine⟨⟨ι,_,w',append_room h0 hu h1 hi (some a') len c' ty q3 q4 hroom (fun b hb=>by cases hb;exact r1) (fun x=>by cases x),.sl ⟨s1,hroom,fun x=>absurd x (by omega),L,s4,s5,s6⟩,r2,r3⟩,?_⟩
         have:=Keeps.put hput
         rw[hb2] at this
         exact this
        ·
         cases hf
         refine⟨?_,?_⟩
         ·
          by_cases hroom:len+n≤c'
          ·
           -- in the room behind
           have ha:AR ι a a':=⟨s1,L,s4,s5 (by omega)⟩
           have hl2:(len+n) * i.size≤c' * i.size:=Nat.mul_le_mul_right _ hroom
           rw[Nat.add_mul] at hl2
           obtain⟨w',r1,r2,r3⟩:=takeover (P:=P) h ha hB k1 (k:=len * i.size) (by omega) hmp (by omega) s4 q1 (by simpa using g2) (by omega)
           rw[k3] at r2 r3
           refine⟨_,_,w',append_room h0 hu h1 hi (some a') len c' ty q3 q4 hroom (fun b hb=>by cases hb;exact r1) (fun x=>by cases x),.sl ⟨rfl,hroom,fun x=>absurd x (Nat.lt_irrefl _),⟨L.blk,L.off+a.off,i.size,L.ext - a.off⟩,by simp [Map.set],fun hc=>by rw[s5 hc];simp,fun _=>?_⟩,r2,r3⟩
           simp only
           omega
          ·
           -- a new row: the old one is let go
           have hold:(if len=0 then some [] else H.cells a (len * i.size))=some ((B.cells.drop a.off).take (len * i.size)):=by
            split
            · rename_i e;subst e;simp
            · unfold Heap.cells;rw[hB];simp only;rw[if_pos ⟨hmp,by omega⟩]
           obtain⟨olds,p1,p2,p3⟩:=first_some (P:=P) h hsr0 hold (Nat.le_refl _) w.drew rfl
           obtain⟨ι',v',w',r1,r2,r3,r4⟩:=grow_does (P:=P) h h0 hu h1 hi hz hzs (some a') len c' ty q3 q4' p3 p1 q1' p2 q2' (by omega) (by omega) (by omega) g1
           refine⟨ι',v',w',r1,r2,⟨r3.dom,fun b B' hb=>?_,fun b b' B1 B2 L1 L2 hne hb1 hb2=>?_⟩,⟨r4.le,r4.next,r4.os,r4.tape,r4.output,r4.size,r4.frame,fun c hc=>?_,fun b B' hb hr=>?_,r4.grow⟩⟩
           ·
            have hb0:=hb
            rw[blk_take] at hb
            refine r3.live b B' ?_
            simp only [Heap.make]
            by_cases e1:b=H.next
            · rw[if_pos e1] at hb ⊢;exact hb
            ·
             rw[if_neg e1] at hb ⊢
             split at hb
             · cases hb
             · exact hb
           ·
            refine r3.apart b b' B1 B2 L1 L2 hne ?_ ?_
            ·
             rw[blk_take] at hb1
             simp only [Heap.make]
             by_cases e1:b=H.next
             · rw[if_pos e1] at hb1 ⊢;exact hb1
             ·
              rw[if_neg e1] at hb1 ⊢
              split at hb1
              · cases hb1
              · exact hb1
            ·
             rw[blk_take] at hb2
             simp only [Heap.make]
             by_cases e1:b'=H.next
             · rw[if_pos e1] at hb2 ⊢;exact hb2
             ·
              rw[if_neg e1] at hb2 ⊢
              split at hb2
              · cases hb2
              · exact hb2
           ·
            refine r4.own c ?_
            obtain⟨b,B',L2,t1,t2,t3,t4⟩:=hc
            refine⟨b,B',L2,?_,t2,t3,t4⟩
            rw[blk_take] at t1
            simp only [Heap.make]
            by_cases e1:b=H.next
            · rw[if_pos e1] at t1 ⊢;exact t1
            ·
             rw[if_neg e1] at t1 ⊢
             split at t1
             · cases t1
             · exact t1
           ·
            rw[blk_take] at hb
            split at hb
            · cases hb;cases hr
            ·
             split at hb
             · cases hb
             · exact hb
         ·
          refine⟨Nat.le_succ _,fun b hb hw=>?_⟩
          rw[blk_take,if_neg (by omega),if_neg (fun e=>hw (by simp [e]))]
 · cases hf
end Go.AM

/- copy, conversions, what is made. -/
namespace Go.AM
open Go
variable {P : Program} {ι : Map} {H : Heap} {w : World}

theorem lenOf_run {x x':Value} (hx:VR ι x x') {n:Nat} (hn:lenA x=some n) (w:World):(Builtin.lenOf x').run P w = .ok n w:=by
 unfold lenA at hn
 split at hn
 ·
  rename_i a k c
  cases hn
  cases a with
  | none=>obtain⟨rfl,e,_⟩:=hx.nilsl_inv;simp [Builtin.lenOf,e]
  | some a=>obtain⟨a',c',rfl,_⟩:=hx.sl_inv;simp [Builtin.lenOf]
 ·
  rename_i s
  obtain rfl:=hx.string_inv
  cases hn
  simp [Builtin.lenOf]
 · cases hn
theorem natmin (a b:Nat):Nat.min a b=min a b:=rfl
theorem copyA_does (h:R ι H w) {ts:Array TypeId} {t e:TypeId} (h0:ts[0]?=some t) (hu:P.underlying t=some (.slice e)) {d d' x x':Value} (hd:VR ι d d') (hx:VR ι x x') {f:Eff} (hf:copyA P H e d x=some f) (ty:TypeId) :
  Does P ι H w (Builtin.copy_ ts ty #[d',x']) f∧Keeps H f.2.1 f.2.2:=by
 unfold copyA at hf
 simp only [Option.bind_eq_bind,Option.bind_eq_some_iff] at hf
 obtain⟨sz,hsz,n,hn,hf⟩:=hf
 obtain⟨i,hi,rfl⟩:=Option.map_eq_some_iff.1 hsz
 have hl:=lenOf_run (P:=P) hx hn
 split at hf
 ·
  rename_i base len cap
  split at hf
  ·
   rename_i h00
   cases hf
   refine⟨?_,Keeps.refl H⟩
   have hz:(Builtin.firstCells i.size 0 x').run P w = .ok #[] w:=by
    unfold lenA at hn
    split at hn
    ·
     rename_i a k c
     cases a with
     | none=>obtain⟨rfl,_,_⟩:=hx.nilsl_inv;simp [Builtin.firstCells]
     | some a=>obtain⟨a',c',rfl,_⟩:=hx.sl_inv;simp [Builtin.firstCells,loadCells,loadCellsFrom]
    ·
     rename_i s
     obtain rfl:=hx.string_inv
     simp [Builtin.firstCells]
    · cases hn
   cases base with
   | none =>
    obtain⟨rfl,rfl,rfl⟩:=hd.nilsl_inv
    exact .pure h (v' := .int .i64 0) (by simp [Builtin.copy_,h0,run_underlying hu,hl,run_sizeOf hi,hz,goInt]) (.int _ _)
   | some a =>
    obtain⟨a',c',rfl,hsr⟩:=hd.sl_inv
    exact .pure h (v' := .int .i64 0) (by simp [Builtin.copy_,h0,run_underlying hu,hl,run_sizeOf hi,natmin,h00,hz,goInt,storeCells]) (.int _ _)
  ·
   rename_i h00
   split at hf
   ·
    rename_i a b k c
    simp only [Option.bind_eq_some_iff,Option.some.injEq] at hf
    obtain⟨new,hnew,H',hput,rfl⟩:=hf
    obtain⟨a',c',rfl,hsa⟩:=hd.sl_inv
    obtain⟨b',c2,rfl,hsb⟩:=hx.sl_inv
    simp only [lenA,Option.some.injEq] at hn
    subst hn
    obtain⟨l',q1,q2,q3,q4,q5⟩:=cells_load (P:=P) h (hsb.AR (by omega)) hnew
    obtain⟨w',r1,r2,r3⟩:=put_store (P:=P) h (hsa.AR (by omega)) hput q4
    refine⟨⟨ι,.int .i64 ((min k len:Nat):Int),w',?_,.int _ _,r2,r3⟩,Keeps.put hput⟩
    simp [Builtin.copy_,h0,run_underlying hu,hl,run_sizeOf hi,natmin,Builtin.firstCells,q3,r1,goInt]
   · cases hf
 · cases hf
theorem isU8_inv {d:Option TypeDesc} (h:isU8 d=true):d=some (.int .u8):=by
 unfold isU8 at h
 split at h
 · rfl
 · cases h
theorem bytesIn_run {l:List Value}:∀ {bs:List UInt8},bytesIn l=some bs→∀ (acc:ByteArray) (w:World),
  (forIn l acc (fun c s => match c with | .int .u8 n => (pure (ForInStep.yield (s.push (UInt8.ofNat n.toNat))) : Sem (ForInStep ByteArray)) | _ => (do stuck "bytesToString: byte expected"; pure (ForInStep.yield s) : Sem (ForInStep ByteArray))) : Sem ByteArray).run P w = .ok ⟨(acc.data.toList ++ bs).toArray⟩ w := by
 induction l with
 | nil =>
  intro bs h acc w
  cases h
  simp
 | cons v l ih =>
  intro bs h acc w
  unfold bytesIn at h
  split at h
  · rename_i e;cases e
  ·
   rename_i n r e
   cases e
   obtain⟨bs',h1,rfl⟩:=Option.map_eq_some_iff.1 h
   simp only [List.forIn_cons,Sem.run_bind,Sem.run_pure,Result.andThen_ok]
   rw[ih h1]
   congr 3
   simp
  · cases h
theorem bytes_flat {l l':List Value} {bs:List UInt8} (h:bytesIn l=some bs) (hl:AsR ι l.toArray l'.toArray):l'=l:=by
 refine eqCells_flat (ι:=ι) l ?_ hl
 clear hl
 induction l generalizing bs with
 | nil=>rfl
 | cons v l ih =>
  unfold bytesIn at h
  split at h
  · rename_i e;cases e
  ·
   rename_i n r e
   cases e
   obtain⟨bs',h1,rfl⟩:=Option.map_eq_some_iff.1 h
   simp [flat,ih h1]
  · cases h
end Go.AM

/- Conversions; what is made. -/
namespace Go.AM
open Go
variable {P : Program} {ι : Map} {H : Heap} {w : World}

theorem AsR.of_flat' {C:Array Value} (h:C.toList.all flat=true):AsR ι C C:=by
 have:=AsR.of_flat (ι:=ι) h
 rwa [Array.toArray_toList] at this
theorem set_R {cs cs':Array Value} (h:AsR ι cs cs') {v v':Value} (hv:VR ι v v') (i:Nat):AsR ι (cs.setIfInBounds i v) (cs'.setIfInBounds i v'):=by
 refine⟨by simp [h.1],fun j x y hx hy=>?_⟩
 rw[Array.getElem?_setIfInBounds] at hx hy
 have hs:=h.1
 by_cases e:i=j
 ·
  rw[if_pos e] at hx hy
  subst e
  split at hx
  ·
   split at hy
   · cases hx;cases hy;exact hv
   · cases hy
  · cases hx
 ·
  rw[if_neg e] at hx hy
  exact h.2 j x y hx hy
theorem fold_R (off:Nat):∀ (l l':List Value) (k:Nat) (cs cs':Array Value),AsR ι l.toArray l'.toArray→AsR ι cs cs' →
  AsR ι ((l.zipIdx k).foldl (fun cs (p:Value×Nat)=>cs.setIfInBounds (off+p.2) p.1) cs) ((l'.zipIdx k).foldl (fun cs (p:Value×Nat)=>cs.setIfInBounds (off+p.2) p.1) cs'):=by
 intro l
 induction l with
 | nil =>
  intro l' k cs cs' h hc
  have:=h.1
  cases l' with
  | nil=>exact hc
  | cons y l'=>simp at this
 | cons x l ih =>
  intro l' k cs cs' h hc
  have hs:=h.1
  cases l' with
  | nil=>simp at hs
  | cons y l' =>
   simp only [List.zipIdx_cons,List.foldl_cons]
   refine ih l' (k+1) _ _ ⟨by simpa using hs,fun i a b ha hb=>h.2 (i+1) a b (by simpa using ha) (by simpa using hb)⟩ (set_R hc (h.2 0 x y (by simp) (by simp)) _)
/-- The parts of a literal. -/
inductive PartsR (ι:Map):List (Nat×Value)→List (Nat×Value)→Prop
 | nil:PartsR ι [] []
 | cons (i:Nat) {v v':Value} {l l':List (Nat×Value)} (h:VR ι v v') (t:PartsR ι l l'):PartsR ι ((i,v) :: l) ((i,v') :: l')
theorem fill_R (place:Nat→Option (Nat×Nat)) {l l':List (Nat×Value)} (h:PartsR ι l l'):∀ {cs cs' c:Array Value},AsR ι cs cs'→Instr.fill place cs l=some c→∃ c',Instr.fill place cs' l'=some c'∧AsR ι c c':=by
 induction h with
 | nil =>
  intro cs cs' c hc h
  simp only [Instr.fill,Option.some.injEq] at h
  subst h
  exact⟨cs',rfl,hc⟩
 | cons i hv ht ih =>
  rename_i v v' l l'
  intro cs cs' c hc h
  rw[Instr.fill] at h
  rw[Instr.fill]
  cases hp:place i with
  | none=>rw[hp] at h;cases h
  | some q =>
   obtain⟨off,size⟩:=q
   rw[hp] at h
   simp only at h
   have h1:=hv.cells
   split at h
   · cases h
   ·
    rename_i hg
    simp only
    rw[if_neg (by rw[← h1.1,← hc.1];exact hg)]
    refine ih ?_ h
    have:=fold_R off v.cells.toList v'.cells.toList 0 cs cs' h1.toList hc
    rw[← Array.foldl_toList,← Array.foldl_toList,Array.toList_zipIdx,Array.toList_zipIdx]
    exact this
theorem buildA_does (h:R ι H w) {t:TypeId} {l l':List (Nat×Value)} (hp:PartsR ι l l') {f:Eff} (hf:buildA P H t l=some f):Does P ι H w (Instr.build t l'.toArray) f∧Keeps H f.2.1 f.2.2:=by
 unfold buildA at hf
 split at hf
 ·
  rename_i z hz
  split at hf
  ·
   rename_i hfl
   obtain⟨c,h1,rfl⟩:=Option.map_eq_some_iff.1 hf
   refine⟨?_,Keeps.refl H⟩
   have hzz:AsR ι z.cells z.cells:=by have:=AsR.of_flat (ι:=ι) hfl;simpa using this
   obtain⟨i,hi,hiz⟩:=Option.bind_eq_some_iff.1 hz
   have:∃ c',P.built t l'=some c'∧AsR ι c c':=by
    unfold Program.built at h1 ⊢
    split at h1
    ·
     rename_i it _ e hit hu
     cases hi.symm.trans hit
     rw[hiz] at h1
     simp only [hiz]
     split at h1
     ·
      rename_i z' ie e1 e2
      cases e1
      exact fill_R _ hp hzz h1
     · cases h1
    ·
     rename_i it fs hit hu
     cases hi.symm.trans hit
     rw[hiz] at h1
     simp only [hiz]
     split at h1
     ·
      rename_i z' pl e1 e2
      cases e1
      exact fill_R _ hp hzz h1
     · cases h1
    · cases h1
   obtain⟨c',h2,h3⟩:=this
   exact .pure h (run_build w t l'.toArray c' h2) (.agg h3.1 h3.2)
  · cases hf
 · cases hf
theorem made_R {z:Array Value} (hz:z.toList.all flat=true) (n:Nat) (h0:z.size=0→n=0):((Array.range n).map (z[· % z.size]!)).toList.all flat=true:=by
 rw[List.all_eq_true]
 intro v hv
 simp only [Array.toList_map,List.mem_map,Array.toList_range,List.mem_range] at hv
 obtain⟨j,hj,rfl⟩:=hv
 have:j % z.size<z.size:=Nat.mod_lt _ (Nat.pos_of_ne_zero (fun e=>by have:=h0 e;omega))
 rw[getElem!_pos z _ this]
 exact List.all_eq_true.1 hz _ (by simp)
theorem run_buildSl (w:World) {t e:TypeId} {len:Nat} {parts:Array (Nat×Value)} {cells:Array Value} {ie:TypeInfo} {z:Value} (hu:P.underlying t=some (.slice e)) (hie:P.info? e=some ie) (hz:ie.zero=some z) (hsmall:¬ len * ie.size > 2 ^ 24)
  (h:Instr.fill (fun i=>some (i * ie.size,ie.size)) ((Array.range (len * ie.size)).map (z.cells[· % z.cells.size]!)) parts.toList=some cells) :
  (Instr.buildSlice t len parts).run P w = .ok (.slice (some ⟨w.heap.size,0,none⟩) len len) (w.alloc (.cells cells e)):=by
 by_cases hpos:len * ie.size=0
 ·
  have e0:(Array.range (len * ie.size)).map (z.cells[· % z.cells.size]!)=(Array.range (len * ie.size)).map ((#[]:Array Value)[· % (#[]:Array Value).size]!):=by rw[hpos];simp
  rw[e0] at h
  simp [Instr.buildSlice,run_underlying hu,sizeOf,typeInfo,hie,hpos,newRow]
  rw[hpos] at h
  simp at h
  simp [h]
 · exact run_buildSlice w t e len parts cells ie z hu hie hz hsmall hpos h
theorem buildSl_does (h:R ι H w) {t:TypeId} {len:Nat} {l l':List (Nat×Value)} (hp:PartsR ι l l') {f:Eff} (hf:buildSl P H t len l=some f):Does P ι H w (Instr.buildSlice t len l'.toArray) f∧Keeps H f.2.1 f.2.2:=by
 unfold buildSl at hf
 split at hf
 ·
  rename_i e hu
  split at hf
  ·
   rename_i i hi
   split at hf
   ·
    rename_i z hz
    split at hf
    ·
     rename_i hg
     obtain⟨g1,g2,g5,g4⟩:=hg
     obtain⟨c,h1,h2⟩:=Option.bind_eq_some_iff.1 hf
     split at h2
     ·
      rename_i hone
      cases h2
      have hbase:AsR ι ((Array.range (len * i.size)).map (z.cells[· % z.cells.size]!)) ((Array.range (len * i.size)).map (z.cells[· % z.cells.size]!)):=by
       exact AsR.of_flat' (made_R g4 (len * i.size) (fun e=>absurd e g5))
      obtain⟨c',h3,h4⟩:=fill_R _ hp hbase h1
      refine⟨?_,Keeps.make _ _⟩
      have hrun:=run_buildSl (P:=P) w hu hi hz (by omega) h3
      have hcs:c.toList.toArray=c:=by simp
      obtain⟨r1,r2,r3⟩:=make_new h (l:=c.toList) (esz:=i.size) (opn:=false) (C:=c') (el:=e) (fr:=(0,0)) (.inl rfl) (CR.of_AsR (by rw[hcs];exact h4)) (fun _=>by rw[← h4.1];simp) (w':=w.alloc (.cells c' e)) rfl rfl rfl rfl
      have hlen:len<OPEN:=by
       have:len≤len * i.size:=Nat.le_mul_of_pos_right _ (by omega)
       unfold OPEN;omega
      exact⟨_,_,_,hrun,.sl ⟨rfl,Nat.le_refl _,fun _=>rfl,⟨w.heap.size,0,i.size,c'.size⟩,by simp [Map.set],fun _=>by simp,fun x=>by omega⟩,r1,r2⟩
     · cases h2
    · cases hf
   · cases hf
  · cases hf
 · cases hf
theorem makeSl_does (h:R ι H w) {t:TypeId} {l l' c c':Value} (hl:VR ι l l') (hc:VR ι c c') {f:Eff} (hf:makeSl P H t l c=some f):Does P ι H w (Instr.makeSlice t l' c') f∧Keeps H f.2.1 f.2.2:=by
 unfold makeSl at hf
 split at hf
 ·
  rename_i e kl l kc c hu
  obtain rfl:=hl.int_inv
  obtain rfl:=hc.int_inv
  split at hf
  ·
   rename_i i hi
   split at hf
   ·
    rename_i z hz
    split at hf
    ·
     rename_i hg
     obtain⟨g1,g2,g3,g4,g5,g6,g7,g8⟩:=hg
     cases hf
     refine⟨?_,Keeps.make _ _⟩
     have hrun:=run_make (P:=P) w t e i z hu hi hz kl kc l c g1 g2 (by rw[Int.mul_comm];omega) (by omega)
     have hcr:AsR ι ((List.range (c.toNat * i.size)).map (fun j=>z.cells[j % z.cells.size]!)).toArray (madeCells z.cells (c.toNat * i.size)):=by
      have e2:((List.range (c.toNat * i.size)).map (fun j=>z.cells[j % z.cells.size]!)).toArray=madeCells z.cells (c.toNat * i.size):=by apply Array.ext';simp [madeCells]
      rw[e2]
      exact AsR.of_flat' (made_R g8 (c.toNat * i.size) (fun x=>by omega))
     obtain⟨r1,r2,r3⟩:=make_new h (l:=(List.range (c.toNat * i.size)).map (fun j=>z.cells[j % z.cells.size]!)) (esz:=i.size) (opn:=false) (C:=madeCells z.cells (c.toNat * i.size)) (el:=e) (fr:=(0,0)) (.inl rfl) (CR.of_AsR hcr) (fun _=>by simp [size_madeCells]) (w':=w.alloc (.cells (madeCells z.cells (c.toNat * i.size)) e)) rfl rfl rfl rfl
     exact⟨_,_,_,hrun,.sl ⟨rfl,by omega,fun _=>rfl,⟨w.heap.size,0,i.size,_⟩,by simp [Map.set];rfl,fun _=>by simp,fun x=>by unfold OPEN at x;omega⟩,r1,r2⟩
    · cases hf
   · cases hf
  · cases hf
 · cases hf
theorem posCells {s:ByteArray}:AsR ι (s.data.toList.map fun b=>Value.int .u8 b.toNat).toArray (s.data.map fun b=>Value.int .u8 b.toNat):=by
 have hfl:(s.data.toList.map fun b=>Value.int .u8 b.toNat).all flat=true:=by
  rw[List.all_eq_true]
  intro v hv
  obtain⟨b,_,rfl⟩:=List.mem_map.1 hv
  rfl
 have:=AsR.of_flat (ι:=ι) hfl
 have e:(s.data.toList.map fun b=>Value.int .u8 b.toNat).toArray=(s.data.map fun b=>Value.int .u8 b.toNat):=by apply Array.ext';simp
 rwa [e] at this ⊢
/-- Another object where a block of ours stands. -/
theorem R.reobj (h:R ι H w) {b:Nat} {B:Blk} {L:Loc} (hB:H.blk b=some B) (hL:ι b=some L) (hrd:B.rd=false) {w':World} (hw:∀ c,c≠L.blk→w'.heap[c]?=w.heap[c]?) (hsz:w'.heap.size=w.heap.size) (ho:w'.os=w.os) (ht:w'.tape=w.tape) (hu:w'.output=w.output) (hbr:BR ι w' B L):R ι H w'∧Step ι H w ι H w':=by
 refine⟨⟨h.dom,fun b2 B2 hB2=>?_,h.apart⟩,⟨Map.le.refl ι,Nat.le_refl _,ho,ht,hu,by omega,fun c _ hc=>hw c fun e=>hc ⟨b,B,L,hB,hL,hrd,e.symm⟩,fun c hc => .inl hc,fun _ _ x _=>x,fun _ _ x => .inl x⟩⟩
 by_cases e:b=b2
 ·
  subst e
  rw[hB] at hB2
  cases hB2
  exact⟨L,hL,hbr⟩
 ·
  obtain⟨L2,hL2,h2⟩:=h.live b2 B2 hB2
  exact⟨L2,hL2,h2.mono (Map.le.refl ι) (hw _ fun x=>h.apart b b2 B B2 L L2 e hB hB2 hL hL2 hrd x.symm)⟩
theorem mark_run {w:World} {a:Addr} {C:Array Value} {el:TypeId} {fr:Nat×Nat} (h:w.heap[a.block]?=some (.cells C el fr)):(markStringish a).run P w = .ok () (w.freeze ⟨a.block,C.size,none⟩ 1):=by
 have hsh:w.shape? a.block=some (el,C.size):=by
  unfold World.shape?
  rw[h]
 simp [markStringish,hsh]
theorem freeze_at {w:World} {b n:Nat} {C:Array Value} {el:TypeId} {lo hi:Nat} (h:w.heap[b]?=some (.cells C el (lo,hi))):(w.freeze ⟨b,n,none⟩ 1).heap[b]?=some (.cells C el (if lo == hi then(n,n+1) else(min lo n,max hi (n+1)))):=by
 unfold World.freeze
 rw[if_neg (by decide)]
 simp only [Array.getElem?_modify,if_true,h,Option.map_some]
theorem freeze_other {w:World} {b n c:Nat} (h:c≠b):(w.freeze ⟨b,n,none⟩ 1).heap[c]?=w.heap[c]?:=by
 unfold World.freeze
 rw[if_neg (by decide)]
 simp only [Array.getElem?_modify,if_neg (Ne.symm h)]
theorem convA_does (h:R ι H w) {t d:TypeId} {x x':Value} (hx:VR ι x x') {f:Eff} (hf:convA P H t d x=some f):Does P ι H w (convert t d x') f∧Keeps H f.2.1 f.2.2:=by
 unfold convA at hf
 split at hf
 ·
  rename_i u k _ n h1 h2
  obtain rfl:=hx.int_inv
  cases hf
  refine⟨.pure h (v' := .int k (k.wrap n)) ?_ (.int _ _),Keeps.refl H⟩
  simp [convert,run_underlying h1,run_underlying h2,Conv.intToInt]
 ·
  rename_i s h1 h2
  obtain rfl:=hx.string_inv
  cases hf
  exact⟨.pure h (v' := .string s) (by simp [convert,run_underlying h1,run_underlying h2]) (.string _),Keeps.refl H⟩
 ·
  rename_i e h1 h2
  split at hf
  ·
   rename_i hu
   cases hf
   obtain⟨rfl,_,_⟩:=hx.nilsl_inv
   exact⟨.pure h (v' := .string .empty) (by simp [convert,run_underlying h1,run_underlying h2,run_underlying (isU8_inv hu),Conv.bytesToString]) (.string _),Keeps.refl H⟩
  · cases hf
 ·
  rename_i e a n c h1 h2
  split at hf
  ·
   rename_i hu
   obtain⟨l,h3,h4⟩:=Option.bind_eq_some_iff.1 hf
   obtain⟨bs,h5,rfl⟩:=Option.map_eq_some_iff.1 h4
   obtain⟨a',c',rfl,hsr⟩:=hx.sl_inv
   refine⟨.pure h (v' := .string ⟨bs.toArray⟩) ?_ (.string _),Keeps.refl H⟩
   have hload:(loadCells a' n).run P w = .ok l.toArray w:=by
    split at h3
    ·
     rename_i e0
     subst e0
     cases h3
     simp [loadCells,loadCellsFrom]
    ·
     rename_i e0
     obtain⟨l',q1,q2,q3,q4,q5⟩:=cells_load (P:=P) h (hsr.AR (by omega)) h3
     rw[bytes_flat h5 q4] at q3
     exact q3
   have:=bytesIn_run (P:=P) h5 .empty w
   simp only [convert,Sem.run_bind,run_underlying h1,run_underlying h2,run_underlying (isU8_inv hu),Conv.bytesToString,hload,Result.andThen_ok]
   rw[List.forIn_toArray]
   refine(congrArg (fun r=>Result.andThen r _) this).trans ?_
   simp
  · cases hf
 ·
  rename_i e s h1 h2
  split at hf
  ·
   rename_i hu
   simp only [Bool.and_eq_true,decide_eq_true_eq] at hu
   obtain⟨hu,hs⟩:=hu
   cases hf
   refine⟨?_,Keeps.make _ _⟩
   obtain rfl:=hx.string_inv
   have hrun:=Lib.run_convert_string_bytes (P:=P) w t d e s h1 h2 (isU8_inv hu)
   have hge:=grownCap_ge w s.size 0 e
   have hsz:(Lib.bytesCells w e s).size=grownCap w s.size 0 e:=by
    simp only [Lib.bytesCells,Array.size_append,Array.size_map,Array.size_replicate]
    show s.size+(grownCap w s.size 0 e - s.size)=_
    omega
   have hpc:=posCells (ι:=ι) (s:=s)
   have hcr:CR ι (s.data.toList.map fun b=>Value.int .u8 b.toNat) (Lib.bytesCells w e s):=by
    refine⟨?_,fun k v hv=>?_⟩
    · rw[hsz,List.length_map];exact hge
    ·
     obtain⟨y,p,q⟩:=hpc.get (i:=k) (x:=v) (by rw[List.getElem?_toArray];exact hv)
     refine⟨y,?_,q⟩
     have:=(Array.getElem?_eq_some_iff.1 p).1
     rw[Lib.bytesCells,Array.getElem?_append,if_pos this]
     exact p
   obtain⟨r1,r2,r3⟩:=make_new h (l:=s.data.toList.map fun b=>Value.int .u8 b.toNat) (esz:=1) (opn:=true) (C:=Lib.bytesCells w e s) (el:=e) (fr:=_) (.inr rfl) hcr (fun x=>by cases x) (w':=Lib.bytesWorld w e s)
    (by
     apply Array.ext_getElem?
     intro j
     rw[Array.getElem?_push]
     rcases Nat.lt_trichotomy j w.heap.size with hj | hj | hj
     · rw[if_neg (by omega),Lib.bytesWorld_at_old w e s j hj]
     ·
      subst hj
      rw[if_pos rfl,Lib.bytesWorld_at_new]
     · rw[if_neg (by omega),Array.getElem?_eq_none (by rw[Lib.bytesWorld_size];omega),Array.getElem?_eq_none (by omega)])
    rfl rfl rfl
   refine⟨_,_,_,hrun,.sl ⟨rfl,hge,fun x=>absurd x (Nat.lt_irrefl _),⟨w.heap.size,0,1,_⟩,by simp [Map.set];rfl,fun _=>by simp,fun x=>?_⟩,r1,r2⟩
   simp only [hsz]
   omega
  · cases hf
 ·
  rename_i e a n c h1 h2
  split at hf
  ·
   rename_i hu
   obtain⟨rfl,hu,hn0⟩:=hu
   split at hf
   ·
    rename_i B hB
    split at hf
    ·
     rename_i hb
     cases hf
     obtain⟨a',c',rfl,hsr⟩:=hx.sl_inv
     have hx':=hx
     obtain⟨_,hnc,_,L,hL,ha,_⟩:=hsr
     obtain rfl:=ha (by omega)
     obtain⟨L',hL',hbr⟩:=h.live _ B hB
     rw[hL] at hL'
     cases hL'
     obtain⟨C,el,lo,hi,g1,g2,g3,g4⟩:=hbr.obj hb.2
     obtain⟨lo',hi',hfa,hfz⟩:∃ lo' hi',(w.freeze ⟨L.blk,C.size,none⟩ 1).heap[L.blk]?=some (.cells C el (lo',hi'))∧(lo'=hi'∨C.size≤lo'):=by
      have hfa:=freeze_at (n:=C.size) g1
      by_cases hq:lo=hi
      ·
       rw[if_pos (by simpa using hq)] at hfa
       exact⟨_,_,hfa,.inr (Nat.le_refl _)⟩
      ·
       rw[if_neg (by simpa using hq)] at hfa
       refine⟨_,_,hfa,.inr ?_⟩
       rcases(g4 hb.1).2 with q | q
       · exact absurd q hq
       · omega
     obtain⟨r1,r2⟩:=R.reobj h hB hL hb.1 (w':=w.freeze ⟨L.blk,C.size,none⟩ 1) (fun c hc=>freeze_other hc) (by unfold World.freeze;rw[if_neg (by decide)];simp) (by unfold World.freeze;rw[if_neg (by decide)]) (by unfold World.freeze;rw[if_neg (by decide)]) (by unfold World.freeze;rw[if_neg (by decide)])
      ⟨hbr.esz,hbr.off,hbr.len,hbr.shut,fun hm=>(by rw[hb.2] at hm;cases hm),fun _=>⟨C,el,lo',hi',hfa,g2,g3,fun hr=>⟨(g4 hr).1,hfz⟩⟩⟩
     refine⟨⟨ι,.slice (some ⟨L.blk,L.off+a.off,none⟩) n c',_,?_,hx',r1,r2⟩,⟨Nat.le_refl _,fun _ _ _=>rfl⟩⟩
     cases (h1.symm.trans h2)
     have hm:=mark_run (P:=P) (a:=⟨L.blk,L.off+a.off,none⟩) g1
     simp [convert,run_underlying h1,run_underlying (isU8_inv hu),hm,Result.andThen]
    · cases hf
   · cases hf
  · cases hf
 · cases hf
end Go.AM

/- clear; cuts behind the length. -/
namespace Go.AM
open Go
variable {P : Program} {ι : Map} {H : Heap} {w : World}

theorem clearA_does (h:R ι H w) {ts:Array TypeId} {t e:TypeId} (h0:ts[0]?=some t) (hu:P.underlying t=some (.slice e)) {x x':Value} (hx:VR ι x x') {f:Eff} (hf:clearA P H e x=some f) (ty:TypeId) :
  Does P ι H w (Builtin.clear_ ts ty #[x']) f∧Keeps H f.2.1 f.2.2:=by
 have ht:VR ι (.tuple #[]) (.tuple #[]) := .tuple rfl (fun i x y h=>by simp at h)
 unfold clearA at hf
 split at hf
 ·
  cases hf
  obtain⟨rfl,rfl,rfl⟩:=hx.nilsl_inv
  exact⟨.pure h (v' := .tuple #[]) (by simp [Builtin.clear_,h0,run_underlying hu]) ht,Keeps.refl H⟩
 ·
  rename_i a n c
  obtain⟨a',c',rfl,hs⟩:=hx.sl_inv
  split at hf
  ·
   rename_i hn
   subst hn
   cases hf
   exact⟨.pure h (v' := .tuple #[]) (by simp [Builtin.clear_,h0,run_underlying hu]) ht,Keeps.refl H⟩
  ·
   rename_i hn
   split at hf
   ·
    rename_i z hz
    split at hf
    ·
     rename_i hfl
     obtain⟨H',hput,rfl⟩:=Option.map_eq_some_iff.1 hf
     have hzc:(Builtin.zeroCells z.cells n).toList.all flat=true:=by
      rw[List.all_eq_true]
      intro y hy
      simp only [Builtin.zeroCells,Array.toList_map,Array.toList_range,List.mem_map,List.mem_range] at hy
      obtain⟨i,hi,rfl⟩:=hy
      have hz0:0<z.cells.size:=Nat.pos_of_ne_zero (fun e=>by rw[e,Nat.mul_zero] at hi;exact absurd hi (Nat.not_lt_zero _))
      have hm:i % z.cells.size<z.cells.size:=Nat.mod_lt _ hz0
      rw[getElem!_pos z.cells _ hm]
      exact List.all_eq_true.1 hfl _ (by simp)
     have hA:AsR ι (Builtin.zeroCells z.cells n).toList.toArray (Builtin.zeroCells z.cells n).toList.toArray:=⟨rfl,fun i x y h1 h2=>by
      rw[h1] at h2
      cases h2
      exact VR.of_flat (List.all_eq_true.1 hzc _ (by rw[List.getElem?_toArray] at h1;exact List.mem_of_getElem? h1))⟩
     obtain⟨w',r1,r2,r3⟩:=put_store (P:=P) h (hs.AR (by omega)) hput hA
     refine⟨⟨ι,.tuple #[],w',?_,ht,r2,r3⟩,Keeps.put hput⟩
     cases n with
     | zero=>exact absurd rfl hn
     | succ n=>simp [Builtin.clear_,h0,run_underlying hu,run_zeroValue hz,r1]
    · cases hf
   · cases hf
 · cases hf
theorem slice_long {t e:TypeId} (hu:P.underlying t=some (.slice e)) {a:Addr} {n m c:Nat} {lo mx:Option Value} {hi:Value}:(Instr.sliceAt t (.slice (some a) n c) lo (some hi) mx).run P w=(Instr.sliceAt t (.slice (some a) m c) lo (some hi) mx).run P w:=by
 have hb:Instr.sliceBounds true n c lo (some hi) mx=Instr.sliceBounds true m c lo (some hi) mx:=by
  unfold Instr.sliceBounds
  cases mx <;> rfl
 simp only [Instr.sliceAt,Instr.slice,Sem.run_bind,run_underlying hu,Result.andThen_ok,hb]
theorem sliceX_does (h:R ι H w) {t:TypeId} {x x':Value} {lo lo' hi hi' mx mx':Option Value} (hx:VR ι x x') (h1:OR ι lo lo') (h2:OR ι hi hi') (h3:OR ι mx mx') {v:Value} (hv:sliceX P H t x lo hi mx=some v) :
  Does P ι H w (Instr.sliceAt t x' lo' hi' mx') (v,H,[]):=by
 unfold sliceX at hv
 split at hv
 ·
  rename_i v' hv'
  cases hv
  exact sliceA_does h hx h1 h2 h3 hv'
 ·
  obtain⟨x2,hw,hv⟩:=Option.bind_eq_some_iff.1 hv
  unfold wideA at hw
  split at hw
  ·
   rename_i a n cap k i _ _
   split at hw
   ·
    rename_i B hB
    split at hw
    ·
     rename_i hc
     obtain⟨c1,c2,c3,c4⟩:=hc
     cases hw
     obtain⟨a',c',rfl,hs⟩:=hx.sl_inv
     obtain⟨s1,s2,s3,L,s4,s5,s6⟩:=hs
     obtain⟨L',hL',hb⟩:=h.live _ _ hB
     rw[s4] at hL'
     cases hL'
     have e1:=s6 c1
     have e2:=hb.len (by simp [Blk.isMap,c3])
     have e3:i.toNat≤c':=by
      rw[hb.esz] at e1
      rcases Nat.lt_or_ge c' i.toNat with q | q
      ·
       have:c' * B.esz<i.toNat * B.esz:=Nat.mul_lt_mul_of_pos_right q (Nat.pos_of_ne_zero c3)
       omega
      · exact q
     have hx2:VR ι (.slice (some a) i.toNat cap) (.slice (some a') i.toNat c') := .sl ⟨s1,e3,s3,L,s4,s5,s6⟩
     obtain⟨ι',v',w',r1,r2⟩:=sliceA_does h hx2 h1 h2 h3 hv
     cases hi' with
     | none=>exact h2.elim
     | some hi' =>
      refine⟨ι',v',w',?_,r2⟩
      rw[← r1]
      have hu:∃ e,P.underlying t=some (.slice e):=by
       unfold sliceA at hv
       split at hv
       · rename_i e;cases e
       · rename_i hu _;exact⟨_,hu⟩
       · rename_i e;cases e
       · cases hv
      obtain⟨e,hu⟩:=hu
      exact slice_long hu
    · cases hw
   · cases hw
  · cases hw
end Go.AM

/- Maps by texts. -/
namespace Go.AM
open Go Go.MapKept
variable {P : Program} {ι : Map} {H : Heap} {w : World}

theorem VR.map_inv {b:Nat} {v':Value} (h:VR ι (.map (some b)) v'):∃ L,ι b=some L∧v' = .map (some L.blk):=by
 cases h with
 | map h=>exact⟨_,h,rfl⟩
theorem VR.nilmap_inv {v':Value} (h:VR ι (.map none) v'):v' = .map none:=by
 cases h with
 | nilmap=>rfl
theorem mapOf_some {t e:TypeId} (h:mapOf P t=some e):∃ k,P.underlying t=some (.map k e)∧P.underlying k=some .string:=by
 unfold mapOf at h
 split at h
 ·
  rename_i k e' ht
  split at h
  ·
   rename_i hk
   cases h
   exact⟨k,ht,hk⟩
  · cases h
 · cases h
/-- What is found at a key. -/
theorem findNow_some {s:ByteArray}:∀ {cells:List Value} {es:List MapEntry} {v:Value} {i:Nat},EsR ι cells es→mapGet s cells=some v→∃ j e,es[j]?=some e∧Instr.findNow .string (.string s) es i=some (some (i+j,e.val))∧VR ι v e.val
 | [],[],_,_,_,h=>by cases h
 | [],_ :: _,_,_,h,_=>h.elim
 | [_],_,_,_,h,_=>h.elim
 | _ :: _ :: _,[],_,_,h,_=>h.elim
 | k :: x :: r,e :: es,v,i,hE,h=>by
  obtain⟨⟨t,ht,rfl⟩,hk,hv,hr⟩:=hE
  unfold mapGet at h
  by_cases c:(s == t)=true
  ·
   rw[if_pos c] at h
   cases h
   refine⟨0,e,rfl,?_,hv⟩
   unfold Instr.findNow
   rw[hk]
   simp [Instr.sameNow,c]
  ·
   rw[if_neg c] at h
   obtain⟨j,e',h1,h2,h3⟩:=findNow_some (i:=i+1) hr h
   refine⟨j+1,e',by simpa using h1,?_,h3⟩
   unfold Instr.findNow
   rw[hk]
   simp only [Instr.sameNow,Bool.not_eq_true] at c ⊢
   rw[c]
   simp only
   rw[h2,show i+1+j=i+(j+1) by omega]
theorem findNow_none {s:ByteArray}:∀ {cells:List Value} {es:List MapEntry} {i:Nat},EsR ι cells es→mapGet s cells=none→Instr.findNow .string (.string s) es i=some none
 | [],[],_,_,_=>rfl
 | [],_ :: _,_,h,_=>h.elim
 | [_],_,_,h,_=>h.elim
 | _ :: _ :: _,[],_,h,_=>h.elim
 | k :: x :: r,e :: es,i,hE,h=>by
  obtain⟨⟨t,ht,rfl⟩,hk,hv,hr⟩:=hE
  unfold mapGet at h
  by_cases c:(s == t)=true
  · rw[if_pos c] at h;cases h
  ·
   rw[if_neg c] at h
   unfold Instr.findNow
   rw[hk]
   simp only [Instr.sameNow,Bool.not_eq_true] at c ⊢
   rw[c]
   exact findNow_none hr h
theorem R.map (h:R ι H w) {b:Nat} {B:Blk} {L:Loc} (hB:H.blk b=some B) (hm:B.isMap=true) (hL:ι b=some L):B.rd=false∧MapO ι w B.cells L.blk:=by
 obtain⟨L',hL',hb⟩:=h.live b B hB
 rw[hL] at hL'
 cases hL'
 exact hb.mapo hm
theorem run_key {k:TypeId} (hk:P.underlying k=some .string) (e:Bool) (s:ByteArray) (w:World):(Instr.checkKey e 10000 k (.string s)).run P w = .ok () w:=by
 exact run_checkKey hk (by simp [IsKey]) e 9999
theorem run_find {k:TypeId} (hk:P.underlying k=some .string) {s:ByteArray} {es:List MapEntry} {r:Option (Nat×Value)} (h:Instr.findNow .string (.string s) es 0=some r) (w:World):(Instr.findKey k (.string s) es).run P w = .ok r w:=by
 simp [Instr.findKey,run_underlying hk,h]
theorem lookupA_does (h:R ι H w) {t:TypeId} {m m' k k':Value} {ok:Bool} (hm:VR ι m m') (hk:VR ι k k') {v:Value} (hv:lookupA P H t m k ok=some v):Does P ι H w (Instr.lookup t m' k' ok) (v,H,[]):=by
 unfold lookupA at hv
 split at hv
 ·
  rename_i e s ht
  obtain⟨kt,h1,h2⟩:=mapOf_some ht
  obtain⟨z,hz,hv⟩:=Option.bind_eq_some_iff.1 hv
  split at hv
  ·
   rename_i hf
   cases hv
   obtain rfl:=hm.nilmap_inv
   obtain rfl:=hk.string_inv
   have hzz:VR ι z z:=VR.of_flat hf
   refine .pure h (v':=if ok then .tuple #[z,.bool false] else z) ?_ ?_
   · cases ok <;> simp [Instr.lookup,run_underlying h1,run_key h2,run_find h2 (show Instr.findNow .string (.string s) [] 0=some none from rfl),run_zeroValue hz]
   ·
    cases ok
    · exact hzz
    ·
     exact .tuple rfl (fun i x y hx hy=>by
      match i with
      | 0=>simp at hx hy;subst hx hy;exact hzz
      | 1=>simp at hx hy;subst hx hy;exact .bool _
      | i+2=>simp at hx)
  · cases hv
 ·
  rename_i e b s ht
  obtain⟨kt,h1,h2⟩:=mapOf_some ht
  split at hv
  ·
   rename_i B hB
   split at hv
   ·
    rename_i hmp
    obtain⟨L,hL,rfl⟩:=hm.map_inv
    obtain rfl:=hk.string_inv
    obtain⟨_,es,clock,q1,q2,_⟩:=h.map hB hmp hL
    split at hv
    ·
     rename_i x hx
     cases hv
     obtain⟨j,e',p1,p2,p3⟩:=findNow_some (i:=0) q2 hx
     refine .pure h (v':=if ok then .tuple #[e'.val,.bool true] else e'.val) ?_ ?_
     · cases ok <;> simp [Instr.lookup,run_underlying h1,run_getObj_map q1,run_key h2,run_find h2 p2]
     ·
      cases ok
      · exact p3
      ·
       exact .tuple rfl (fun i x y hx hy=>by
        match i with
        | 0=>simp at hx hy;subst hx hy;exact p3
        | 1=>simp at hx hy;subst hx hy;exact .bool _
        | i+2=>simp at hx)
    ·
     rename_i hx
     obtain⟨z,hz,hv⟩:=Option.bind_eq_some_iff.1 hv
     split at hv
     ·
      rename_i hf
      cases hv
      have p2:=findNow_none (i:=0) q2 hx
      have hzz:VR ι z z:=VR.of_flat hf
      refine .pure h (v':=if ok then .tuple #[z,.bool false] else z) ?_ ?_
      · cases ok <;> simp [Instr.lookup,run_underlying h1,run_getObj_map q1,run_key h2,run_find h2 p2,run_zeroValue hz]
      ·
       cases ok
       · exact hzz
       ·
        exact .tuple rfl (fun i x y hx hy=>by
         match i with
         | 0=>simp at hx hy;subst hx hy;exact hzz
         | 1=>simp at hx hy;subst hx hy;exact .bool _
         | i+2=>simp at hx)
     · cases hv
   · cases hv
  · cases hv
 · cases hv
/-- A block of any kind more. -/
theorem make_gen (h:R ι H w) {B:Blk} {L:Loc} (hLb:L.blk=w.heap.size) (hrd:B.rd=false) {ob:Obj} {w':World} (hh:w'.heap=w.heap.push ob) (ho:w'.os=w.os) (ht:w'.tape=w.tape) (hu:w'.output=w.output) (hbr:w'.heap[w.heap.size]?=some ob→BR (ι.set H.next L) w' B L) :
  R (ι.set H.next L) (H.make B) w'∧Step ι H w (ι.set H.next L) (H.make B) w':=by
 have hle:ι.le (ι.set H.next L):=Map.le_set h.dom
 have hold:∀ c,c<w.heap.size→w'.heap[c]?=w.heap[c]?:=fun c hc=>by rw[hh,Array.getElem?_push,if_neg (by omega)]
 have hnew:w'.heap[w.heap.size]?=some ob:=by rw[hh];simp
 have hin:∀ b B L,H.blk b=some B→ι b=some L→L.blk<w.heap.size:=fun b B L hb hL=>by
  obtain⟨L',hL',hbr⟩:=h.live b B hb
  rw[hL] at hL'
  cases hL'
  exact hbr.lt
 refine⟨⟨?_,?_,?_⟩,⟨hle,Nat.le_succ _,ho,ht,hu,by rw[hh];simp,fun c hc _=>hold c hc,?_,fun b B hb hr=>?_,fun b L hb=>?_⟩⟩
 ·
  intro b L hb
  simp only [Map.set] at hb
  simp only [Heap.make]
  split at hb
  · omega
  · have:=h.dom b L hb;omega
 ·
  intro b B' hb
  simp only [Heap.make] at hb
  split at hb
  ·
   rename_i e
   cases hb
   subst e
   exact⟨L,by simp [Map.set],hbr hnew⟩
  ·
   rename_i e
   obtain⟨L',hL,hbr⟩:=h.live b B' hb
   exact⟨L',hle _ _ hL,hbr.mono hle (hold _ (hin b B' L' hb hL))⟩
 ·
  intro b b' B1 B' L1 L' hne hb hb' hl hl' hrd
  simp only [Heap.make] at hb hb'
  simp only [Map.set] at hl hl'
  by_cases e1:b=H.next
  ·
   rw[if_pos e1] at hb hl
   have e2:b'≠H.next:=fun x=>hne (e1.trans x.symm)
   rw[if_neg e2] at hb' hl'
   cases hl
   have:=hin b' B' L' hb' hl'
   omega
  ·
   rw[if_neg e1] at hb hl
   by_cases e2:b'=H.next
   ·
    rw[if_pos e2] at hb' hl'
    cases hl'
    have:=hin b B1 L1 hb hl
    omega
   ·
    rw[if_neg e2] at hb' hl'
    exact h.apart b b' B1 B' L1 L' hne hb hb' hl hl' hrd
 ·
  intro c hc
  obtain⟨b,B',L',p,q,r,s⟩:=hc
  simp only [Heap.make] at p
  simp only [Map.set] at q
  by_cases e1:b=H.next
  ·
   rw[if_pos e1] at q
   cases q
   exact .inr (by omega)
  ·
   rw[if_neg e1] at p q
   exact .inl ⟨b,B',L',p,q,r,s⟩
 ·
  simp only [Heap.make] at hb
  split at hb
  · cases hb;rw[hrd] at hr;cases hr
  · exact hb
 ·
  simp only [Map.set] at hb
  split at hb
  · exact .inr (by omega)
  · exact .inl hb
theorem makeMap_does (h:R ι H w) (t:TypeId):Does P ι H w (Instr.makeMap t none) (.map (some H.next),H.make ⟨[],0,false,true⟩,[]):=by
 obtain⟨r1,r2⟩:=make_gen h (B:=⟨[],0,false,true⟩) (L:=⟨w.heap.size,0,0,0⟩) rfl rfl (ob := .map #[] 0) (w':=w.alloc (.map #[] 0)) rfl rfl rfl rfl (fun hn=>⟨rfl,fun _ _=>rfl,fun hm=>(by cases hm),fun _ hm=>(by cases hm),fun _=>⟨rfl,#[],0,hn,trivial,stamped_empty 0⟩,fun hm=>(by cases hm)⟩)
 exact⟨_,_,_,rfl,.map (b:=H.next) (L:=⟨w.heap.size,0,0,0⟩) (by simp [Map.set]),r1,r2⟩
/-- A map's entries with something at a key. -/
theorem put_found {s:ByteArray} {x x':Value} (hx:VR ι x x'):∀ {cells:List Value} {es:List MapEntry} {v:Value},EsR ι cells es→mapGet s cells=some v→∃ j e,es[j]?=some e∧(∀ i,Instr.findNow .string (.string s) es i=some (some (i+j,e.val)))∧e.key = .string s∧EsR ι (mapPut s x cells) (es.modify j fun e=>{ e with key := .string s,val:=x' })
 | [],[],_,_,h=>by cases h
 | [],_ :: _,_,h,_=>h.elim
 | [_],_,_,h,_=>h.elim
 | _ :: _ :: _,[],_,h,_=>h.elim
 | k :: y :: r,e :: es,v,hE,h=>by
  obtain⟨⟨t,ht,rfl⟩,hk,hv,hr⟩:=hE
  unfold mapGet at h
  unfold mapPut
  by_cases c:(s == t)=true
  ·
   rw[if_pos c]
   have hst:s=t:=(bytes_beq s t).1 c
   subst hst
   refine⟨0,e,rfl,fun i=>?_,hk,?_⟩
   ·
    unfold Instr.findNow
    rw[hk]
    simp [Instr.sameNow,c]
   · exact⟨⟨s,ht,rfl⟩,rfl,hx,hr⟩
  ·
   rw[if_neg c] at h
   rw[if_neg c]
   obtain⟨j,e',h1,h2,h3,h4⟩:=put_found hx hr h
   refine⟨j+1,e',by simpa using h1,fun i=>?_,h3,?_⟩
   ·
    unfold Instr.findNow
    rw[hk]
    simp only [Instr.sameNow,Bool.not_eq_true] at c ⊢
    rw[c]
    simp only
    rw[h2,show i+1+j=i+(j+1) by omega]
   ·
    rw[List.modify_succ_cons]
    exact⟨⟨t,ht,rfl⟩,hk,hv,h4⟩
theorem put_new {s:ByteArray} {x x':Value} {born:Nat} (hs:s.size≤140737488355328) (hx:VR ι x x'):∀ {cells:List Value} {es:List MapEntry},EsR ι cells es→mapGet s cells=none→EsR ι (mapPut s x cells) (es ++ [{ key := .string s,val:=x',born:=born }])
 | [],[],_,_=>⟨⟨s,hs,rfl⟩,rfl,hx,trivial⟩
 | [],_ :: _,h,_=>h.elim
 | [_],_,h,_=>h.elim
 | _ :: _ :: _,[],h,_=>h.elim
 | k :: y :: r,e :: es,hE,h=>by
  obtain⟨⟨t,ht,rfl⟩,hk,hv,hr⟩:=hE
  unfold mapGet at h
  unfold mapPut
  by_cases c:(s == t)=true
  · rw[if_pos c] at h;cases h
  ·
   rw[if_neg c] at h
   rw[if_neg c]
   exact⟨⟨t,ht,rfl⟩,hk,hv,put_new hs hx hr h⟩
theorem get_none {s:ByteArray}:∀ {cells:List Value} {es:List MapEntry},EsR ι cells es→mapGet s cells=none→∀ x ∈ es,x.key ≠ .string s
 | [],[],_,_=>fun x hx=>by cases hx
 | [],_ :: _,h,_=>h.elim
 | [_],_,h,_=>h.elim
 | _ :: _ :: _,[],h,_=>h.elim
 | k :: y :: r,e :: es,hE,h=>by
  obtain⟨⟨t,ht,rfl⟩,hk,hv,hr⟩:=hE
  unfold mapGet at h
  by_cases c:(s == t)=true
  · rw[if_pos c] at h;cases h
  ·
   rw[if_neg c] at h
   intro x hx
   rcases List.mem_cons.1 hx with rfl | hx
   ·
    rw[hk]
    intro e
    cases e
    exact c ((bytes_beq _ _).2 rfl)
   · exact get_none hr h x hx
theorem isMap_cells {B:Blk} (cs:List Value):({ B with cells:=cs }:Blk).isMap=B.isMap:=rfl
/-- A map is written. -/
theorem map_written (h:R ι H w) {b:Nat} {B:Blk} {L:Loc} (hB:H.blk b=some B) (hmp:B.isMap=true) (hL:ι b=some L) {cells:List Value} {o:Obj} (hlt:L.blk<w.heap.size) (hm:∃ es clock,o = .map es clock∧EsR ι cells es.toList∧Stamped es clock) :
  R ι (H.set b (some { B with cells:=cells })) { w with heap:=w.heap.setIfInBounds L.blk o }∧Step ι H w ι (H.set b (some { B with cells:=cells })) { w with heap:=w.heap.setIfInBounds L.blk o }:=by
 obtain⟨hrd,_⟩:=h.map hB hmp hL
 have same:(w.heap.setIfInBounds L.blk o)[L.blk]?=some o:=by simp [hlt]
 have other:∀ c,c≠L.blk→(w.heap.setIfInBounds L.blk o)[c]?=w.heap[c]?:=fun c hc=>by simp [Ne.symm hc]
 have hset:∀ c,(H.set b (some { B with cells:=cells })).blk c=if c=b then some { B with cells:=cells } else H.blk c:=fun _=>rfl
 refine⟨⟨h.dom,?_,?_⟩,⟨Map.le.refl ι,Nat.le_refl _,rfl,rfl,rfl,by simp,fun c hc ht=>?_,fun c hc => .inl ?_,fun b' B' hb hr=>?_,fun _ _ h => .inl h⟩⟩
 ·
  intro c B' hc
  rw[hset] at hc
  split at hc
  ·
   rename_i e
   subst e
   cases hc
   obtain⟨L',hL',hbr⟩:=h.live _ _ hB
   rw[hL] at hL'
   cases hL'
   obtain⟨es,clock,rfl,m2,m3⟩:=hm
   have hopn:B.opn=true:=by unfold Blk.isMap at hmp;simp at hmp;exact hmp.1
   have hno:({ B with cells:=cells }:Blk).isMap=false→False:=fun hn=>by rw[isMap_cells,hmp] at hn;cases hn
   exact⟨L,hL,⟨hbr.esz,hbr.off,fun hn=>(hno hn).elim,fun _ ho=>(by simp only at ho;rw[hopn] at ho;cases ho),fun _=>⟨hrd,es,clock,same,m2,m3⟩,fun hn=>(hno hn).elim⟩⟩
  ·
   rename_i e
   obtain⟨L',hL',hbr⟩:=h.live c B' hc
   exact⟨L',hL',hbr.mono (Map.le.refl ι) (other _ (fun q=>h.apart b c B B' L L' (Ne.symm e) hB hc hL hL' hrd q.symm))⟩
 ·
  intro c c' B1 B2 L1 L2 hne h1 h2 l1 l2 r1
  rw[hset] at h1 h2
  by_cases e1:c=b
  ·
   rw[if_pos e1] at h1
   cases h1
   subst e1
   rw[if_neg (Ne.symm hne)] at h2
   exact h.apart _ c' B B2 L1 L2 hne hB h2 l1 l2 hrd
  ·
   rw[if_neg e1] at h1
   by_cases e2:c'=b
   ·
    rw[if_pos e2] at h2
    subst e2
    exact h.apart c _ B1 B L1 L2 hne h1 hB l1 l2 r1
   ·
    rw[if_neg e2] at h2
    exact h.apart c c' B1 B2 L1 L2 hne h1 h2 l1 l2 r1
 · exact other c (fun e=>ht ⟨b,B,L,hB,hL,hrd,e.symm⟩)
 ·
  obtain⟨c',B',L',p,q,r,s⟩:=hc
  rw[hset] at p
  split at p
  ·
   rename_i e
   subst e
   exact⟨_,B,L',hB,q,hrd,s⟩
  · exact⟨c',B',L',p,q,r,s⟩
 ·
  rw[hset] at hb
  split at hb
  · cases hb;simp only at hr;rw[hrd] at hr;cases hr
  · exact hb
theorem updA_next (h:R ι H w) {t:TypeId} {m m' k k' x x':Value} (hm:VR ι m m') (hk:VR ι k k') (hx:VR ι x x') {e:Eff} (he:updA P H t m k x=some e):∃ w',(Instr.mapUpdate t m' k' x').run P w = .ok () w'∧e.1=undef∧R ι e.2.1 w'∧Step ι H w ι e.2.1 w':=by
 unfold updA at he
 split at he
 ·
  rename_i el b s ht
  obtain⟨kt,h1,h2⟩:=mapOf_some ht
  split at he
  ·
   rename_i B hB
   split at he
   ·
    rename_i hc
    obtain⟨hmp,hs⟩:=hc
    cases he
    obtain⟨L,hL,rfl⟩:=hm.map_inv
    obtain rfl:=hk.string_inv
    obtain⟨hrd,es,clock,q1,q2,q3⟩:=h.map hB hmp hL
    have hlt:L.blk<w.heap.size:=(Array.getElem?_eq_some_iff.1 q1).1
    cases hg:mapGet s B.cells with
    | some v =>
     obtain⟨j,e',p1,p2,p3,p4⟩:=put_found hx q2 hg
     have hj:es[j]?=some e':=by rw[← Array.getElem?_toList];exact p1
     refine⟨_,?_,rfl,map_written h hB hmp hL hlt (o := .map (es.modify j fun e=>{ e with key := .string s,val:=x' }) clock) ⟨_,_,rfl,?_,?_⟩⟩
     ·
      have:=p2 0
      rw[Nat.zero_add] at this
      have hss:(s == s)=true:=(bytes_beq s s).2 rfl
      simp [Instr.mapUpdate,run_underlying h1,run_getObj_map q1,run_key h2,run_find h2 this,hj,p3,Instr.keyThatStays,Instr.sameBits,hss,run_setObj_map _ q1]
     · rw[Array.toList_modify];exact p4
     · exact stamped_modify q3 j _ (fun _ _=>rfl) (fun e he h=>by rw[hj] at h;cases h;exact p3.symm)
    | none =>
     have p2:=findNow_none (i:=0) q2 hg
     refine⟨_,?_,rfl,map_written h hB hmp hL hlt (o := .map (es.push { key := .string s,val:=x',born:=clock }) (clock+1)) ⟨_,_,rfl,?_,?_⟩⟩
     · simp [Instr.mapUpdate,run_underlying h1,run_getObj_map q1,run_key h2,run_find h2 p2,run_setObj_map _ q1]
     · rw[Array.toList_push];exact put_new hs hx q2 hg
     · exact stamped_push q3 (get_none q2 hg)
   · cases he
  · cases he
 · cases he
end Go.AM

/- Single operations: what they do in our memory is what the given machine does. -/
namespace Go.AM
open Go
variable {P : Program} {E : TypeId → Bool} {ι : Map} {H : Heap} {w : World}

theorem RegR.parts {r:Regs} {a:Act} (h:RegR ι r a.tmps):∀ (ps:List (Nat×Operand)) {vs:List (Nat×Value)},ps.mapM (fun(p:Nat×Operand)=>(r.eval p.2).map fun v=>(p.1,v))=some vs→PartsR ι vs (ps.map fun p=>(p.1,a.eval p.2)):=by
 intro ps
 induction ps with
 | nil=>intro vs hv;simp at hv;subst hv;exact .nil
 | cons p ps ih =>
  intro vs hv
  simp only [List.mapM_cons,Option.bind_eq_bind,Option.bind_eq_some_iff,Option.pure_def,Option.some.injEq] at hv
  obtain⟨x,h1,l,h2,rfl⟩:=hv
  obtain⟨v,h3,rfl⟩:=Option.map_eq_some_iff.1 h1
  exact .cons _ (h.eval h3) (ih h2)
theorem RegR.opt {r:Regs} {a:Act} (h:RegR ι r a.tmps) {x:Option Operand} {v:Option Value} (hv:optEval r x=some v):OR ι v (x.map a.eval):=by
 cases x with
 | none=>simp [optEval] at hv;subst hv;trivial
 | some x =>
  obtain⟨y,h1,rfl⟩:=Option.map_eq_some_iff.1 hv
  exact h.eval h1
/-- What a step must come to, for what follows. -/
def Next (P:Program) (ι:Map) (H:Heap) (w:World) (s:Sem Next) (e:Eff):Prop :=
 ∃ ι' v' w',(s.run P w = .ok (.value v') w'∨(v'=undef∧s.run P w = .ok .skip w'))∧VR ι' e.1 v'∧R ι' e.2.1 w'∧Step ι H w ι' e.2.1 w'
theorem Does.next {s:Sem Value} {e:Eff} (h:Does P ι H w s e):Next P ι H w (do Pure.pure (.value (← s))) e:=by
 obtain⟨ι',v',w',h1,h2⟩:=h
 exact⟨ι',v',w',.inl (by simp [h1]),h2⟩
theorem pureV_some {H:Heap} {v:Option Value} {e:Eff} (h:pureV H v=some e):∃ x,v=some x∧e=(x,H,[]):=by
 obtain⟨x,h1,h2⟩:=Option.map_eq_some_iff.1 h
 exact⟨x,h1,h2.symm⟩
theorem ptr?_some {v:Value} {a:Addr} (h:ptr? v=some a):v = .pointer (some a):=by
 cases v with
 | pointer b=>exact congrArg _ h
 | _=>simp [ptr?] at h
theorem AsR.two {x y:Value} {l:List Value} (h:AsR ι [x,y].toArray l.toArray):∃ x' y',l = [x',y']∧VR ι x x'∧VR ι y y':=by
 obtain⟨h1,h2⟩:=h.of_list
 match l,h1 with
 | [x',y'],_=>exact⟨x',y',rfl,h2 0 _ _ rfl rfl,h2 1 _ _ rfl rfl⟩
theorem AsR.one {x:Value} {l:List Value} (h:AsR ι [x].toArray l.toArray):∃ x',l = [x']∧VR ι x x':=by
 obtain⟨h1,h2⟩:=h.of_list
 match l,h1 with
 | [x'],_=>exact⟨x',rfl,h2 0 _ _ rfl rfl⟩
theorem lenB_run {t:Option TypeId} {x x':Value} (hx:VR ι x x') {v:Value} (hv:lenB P t x=some v):∃ u,t=some u∧VR ι v v∧∀ ty (ts:Array TypeId) (w:World),ts[0]?=some u→(Builtin.len_ ts ty #[x']).run P w = .ok v w:=by
 unfold lenB at hv
 cases t with
 | none=>simp at hv
 | some u =>
  simp only [Option.bind_some] at hv
  refine⟨u,rfl,?_⟩
  split at hv
  ·
   rename_i s hu
   obtain rfl:=hx.string_inv
   cases hv
   exact⟨.int _ _,fun ty ts w hts=>by simp [Builtin.len_,hts,run_underlying hu,goInt]⟩
  ·
   rename_i e a n c hu
   cases hv
   refine⟨.int _ _,fun ty ts w hts=>?_⟩
   cases a with
   | none=>obtain⟨rfl,rfl,rfl⟩:=hx.nilsl_inv;simp [Builtin.len_,hts,run_underlying hu,goInt]
   | some a=>obtain⟨a',c',rfl,_⟩:=hx.sl_inv;simp [Builtin.len_,hts,run_underlying hu,goInt]
  ·
   rename_i n e hu
   cases hv
   exact⟨.int _ _,fun ty ts w hts=>by simp [Builtin.len_,hts,run_underlying hu,goInt]⟩
  · cases hv
theorem builtinA_next (h:R ι H w) {b:Builtin} {ts:Array TypeId} {args args':List Value} (ha:AsR ι args.toArray args'.toArray) {e:Eff} (he:builtinA P H b ts args=some e) (ty:TypeId) (cs:Array Bool):Next P ι H w (builtin b ts ty cs args'.toArray) e:=by
 unfold builtinA at he
 split at he
 ·
  obtain⟨x',rfl,hx⟩:=ha.one
  obtain⟨v,h1,rfl⟩:=pureV_some he
  obtain⟨u,h2,h3,h4⟩:=lenB_run hx h1
  exact Does.next (.pure h (h4 ty ts w h2) h3)
 ·
  obtain⟨s',x',rfl,hs,hx⟩:=ha.two
  split at he
  ·
   rename_i e' hu
   obtain⟨t,h0,hu⟩:=Option.bind_eq_some_iff.1 hu
   split at he
   ·
    rename_i h1
    exact Does.next (appendA_does h h0 hu h1 hs hx he ty).1
   · cases he
  · cases he
 ·
  obtain⟨s',x',rfl,hs,hx⟩:=ha.two
  split at he
  ·
   rename_i e' hu
   obtain⟨t,h0,hu⟩:=Option.bind_eq_some_iff.1 hu
   exact Does.next (copyA_does h h0 hu hs hx he ty).1
  · cases he
 ·
  obtain⟨x',rfl,hx⟩:=ha.one
  split at he
  ·
   rename_i e' hu
   obtain⟨t,h0,hu⟩:=Option.bind_eq_some_iff.1 hu
   exact Does.next (clearA_does h h0 hu hx he ty).1
  · cases he
 ·
  obtain⟨v,h1,rfl⟩:=pureV_some he
  unfold minA at h1
  split at h1
  ·
   obtain⟨x',y',rfl,hx,hy⟩:=ha.two
   obtain rfl:=hx.int_inv
   obtain rfl:=hy.int_inv
   cases h1
   exact Does.next (.pure h (by simp [Builtin.min_,Builtin.min2]) (.int _ _))
  · cases h1
 ·
  obtain⟨v,h1,rfl⟩:=pureV_some he
  unfold maxA at h1
  split at h1
  ·
   obtain⟨x',y',rfl,hx,hy⟩:=ha.two
   obtain rfl:=hx.int_inv
   obtain rfl:=hy.int_inv
   cases h1
   exact Does.next (.pure h (by simp [Builtin.max_,Builtin.max2]) (.int _ _))
  · cases h1
 · cases he
theorem Does.step {s:Sem Value} {v:Value} {H':Heap} {W:List Nat} (h:Does P ι H w s (v,H',W)):Next P ι H w (do Pure.pure (.value (← s))) (v,H',W):=h.next
theorem evOp_next (hE:EqOk P E) (h:R ι H w) {r:Regs} {a:Act} (hr:RegR ι r a.tmps) {o:Oper} {e:Eff} (he:evOp P E r H o=some e):Next P ι H w (execOp a.eval o) e:=by
 unfold evOp at he
 unfold execOp
 split at he
 all_goals rename_i ho
 all_goals simp only [ho]
 case h_1 =>
  obtain⟨v,h1,rfl⟩:=pureV_some he
  exact⟨ι,_,w,.inl (by simp),hr.eval h1,h,.refl ι H w⟩
 case h_2 =>
  obtain⟨v,h1,rfl⟩:=pureV_some he
  exact⟨ι,_,w,.inl (by simp),hr.eval h1,h,.refl ι H w⟩
 case h_3 c x y =>
  split at he
  ·
   rename_i t hc
   obtain⟨v,h1,rfl⟩:=pureV_some he
   have hb:=(hr.eval hc).bool_inv
   refine⟨ι,if t then a.eval x else a.eval y,w,.inl (by rw[hb];cases t <;> simp [asBool]),?_,h,.refl ι H w⟩
   cases t
   · exact hr.eval h1
   · exact hr.eval h1
  · cases he
 case h_4 =>
  obtain⟨z,hz,he⟩:=Option.bind_eq_some_iff.1 he
  split at he
  ·
   rename_i hf
   have hzz:VR ι z z:=by
    by_cases hc:∃ xs,z = .agg xs
    ·
     obtain⟨xs,rfl⟩:=hc
     have:=AsR.of_flat' (ι:=ι) hf
     exact .agg this.1 this.2
    ·
     have:z.cells = #[z]:=by cases z <;> first | rfl | exact absurd ⟨_,rfl⟩ hc
     rw[this] at hf
     exact .of_flat (by simpa using hf)
   obtain⟨ι',v',w',q1,q2⟩:=(newv_does h hzz he _).1
   refine⟨ι',v',w',.inl ?_,q2⟩
   simp only [Sem.run_bind] at q1 ⊢
   simp only [Instr.alloc,Sem.run_bind,run_zeroValue hz,Result.andThen_ok]
   rw[q1]
   simp
  · cases he
 case h_5 =>
  obtain⟨v,hv,he⟩:=Option.bind_eq_some_iff.1 he
  exact(newv_does h (hr.eval hv) he _).1.next
 case h_6 t ps =>
  obtain⟨vs,h1,he⟩:=Option.bind_eq_some_iff.1 he
  have hp:=hr.parts ps.toList h1
  have:=(buildA_does h hp he).1.next
  have e1:(ps.map fun(i,x)=>(i,a.eval x))=(ps.toList.map fun p=>(p.1,a.eval p.2)).toArray:=by apply Array.ext';simp
  rw[e1]
  exact this
 case h_7 t n ps =>
  obtain⟨vs,h1,he⟩:=Option.bind_eq_some_iff.1 he
  have hp:=hr.parts ps.toList h1
  have:=(buildSl_does h hp he).1.next
  have e1:(ps.map fun(i,x)=>(i,a.eval x))=(ps.toList.map fun p=>(p.1,a.eval p.2)).toArray:=by apply Array.ext';simp
  rw[e1]
  exact this
 case h_8 t x =>
  obtain⟨v,h1,rfl⟩:=pureV_some he
  obtain⟨b,h2,h3⟩:=Option.bind_eq_some_iff.1 h1
  obtain⟨u,h4,h5⟩:=Option.bind_eq_some_iff.1 h2
  obtain rfl:=ptr?_some h5
  obtain⟨b',h6,h7⟩:=(hr.eval h4).ptr_inv
  rw[h6]
  obtain⟨v',q1,q2⟩:=load_does (P:=P) h h7 h3
  exact Does.next (.pure h q1 q2)
 case h_9 t x y =>
  obtain⟨b,h2,he⟩:=Option.bind_eq_some_iff.1 he
  obtain⟨u,h4,h5⟩:=Option.bind_eq_some_iff.1 h2
  obtain⟨v,h6,he⟩:=Option.bind_eq_some_iff.1 he
  obtain⟨H',h7,rfl⟩:=Option.map_eq_some_iff.1 he
  obtain rfl:=ptr?_some h5
  obtain⟨b',h8,h9⟩:=(hr.eval h4).ptr_inv
  rw[h8]
  obtain⟨w',q1,q2,q3,q4⟩:=store_does (P:=P) h h9 (hr.eval h6) h7
  exact⟨ι,undef,w',.inr ⟨rfl,by simp [q1]⟩,.tuple rfl (fun i x y hx=>by simp at hx),q2,q3⟩
 case h_10 x =>
  split at he
  ·
   rename_i b hb
   cases he
   obtain⟨b',h6,h7⟩:=(hr.eval hb).ptr_inv
   rw[h6]
   exact⟨ι,_,w,.inl (by simp),.ptr h7,h,.refl ι H w⟩
  · cases he
 case h_11 op t x y nn =>
  obtain⟨u,h1,he⟩:=Option.bind_eq_some_iff.1 he
  obtain⟨v,h2,he⟩:=Option.bind_eq_some_iff.1 he
  obtain⟨z,h3,rfl⟩:=pureV_some he
  exact(bin_does hE h (hr.eval h1) (hr.eval h2) h3 x y).next
 case h_12 op t x =>
  obtain⟨u,h1,he⟩:=Option.bind_eq_some_iff.1 he
  obtain⟨z,h3,rfl⟩:=pureV_some he
  exact(un_does h (hr.eval h1) h3).next
 case h_13 s d x =>
  obtain⟨u,h1,he⟩:=Option.bind_eq_some_iff.1 he
  exact(convA_does h (hr.eval h1) he).1.next
 case h_14 fn first captured =>
  split at he
  ·
   rename_i h0
   obtain⟨l,h1,rfl⟩:=Option.map_eq_some_iff.1 he
   have h2:=evals_R hr captured.toList l h1
   have e1:(captured.toList.map a.eval).toArray=captured.map a.eval:=by apply Array.ext';simp
   have e2:first.map a.eval = #[]:=by rw[Array.eq_empty_of_size_eq_zero h0];simp
   rw[e1] at h2
   refine⟨ι,.func fn #[] (captured.map a.eval),w,.inl (by simp [Instr.makeFunc,e2]),.func fn h2.1 h2.2,h,.refl ι H w⟩
  · cases he
 case h_15 t l c =>
  obtain⟨u,h1,he⟩:=Option.bind_eq_some_iff.1 he
  obtain⟨v,h2,he⟩:=Option.bind_eq_some_iff.1 he
  exact(makeSl_does h (hr.eval h1) (hr.eval h2) he).1.next
 case h_16 t x lo hi mx =>
  obtain⟨u,h1,he⟩:=Option.bind_eq_some_iff.1 he
  obtain⟨lo',h2,he⟩:=Option.bind_eq_some_iff.1 he
  obtain⟨hi',h3,he⟩:=Option.bind_eq_some_iff.1 he
  obtain⟨mx',h4,he⟩:=Option.bind_eq_some_iff.1 he
  obtain⟨z,h5,rfl⟩:=pureV_some he
  exact(sliceX_does h (hr.eval h1) (hr.opt h2) (hr.opt h3) (hr.opt h4) h5).next
 case h_17 t x f =>
  obtain⟨u,h1,he⟩:=Option.bind_eq_some_iff.1 he
  obtain⟨z,h3,rfl⟩:=pureV_some he
  exact(fieldAd_does h (hr.eval h1) h3).next
 case h_18 t x f =>
  obtain⟨u,h1,he⟩:=Option.bind_eq_some_iff.1 he
  obtain⟨z,h3,rfl⟩:=pureV_some he
  exact(fieldA_does h (hr.eval h1) h3).next
 case h_19 t x i =>
  obtain⟨u,h1,he⟩:=Option.bind_eq_some_iff.1 he
  obtain⟨v,h2,he⟩:=Option.bind_eq_some_iff.1 he
  obtain⟨z,h3,rfl⟩:=pureV_some he
  exact(indexAd_does h (hr.eval h1) (hr.eval h2) h3).next
 case h_20 t x i =>
  obtain⟨u,h1,he⟩:=Option.bind_eq_some_iff.1 he
  obtain⟨v,h2,he⟩:=Option.bind_eq_some_iff.1 he
  obtain⟨z,h3,rfl⟩:=pureV_some he
  exact(indexA_does h (hr.eval h1) (hr.eval h2) h3).next
 case h_21 x i =>
  split at he
  ·
   rename_i vs hx
   obtain⟨z,h3,rfl⟩:=pureV_some he
   exact(extract_does h (hr.eval hx) h3).next
  · cases he
 case h_22 c =>
  obtain⟨args,h1,he⟩:=Option.bind_eq_some_iff.1 he
  have h2:=evals_R hr c.args.toList args h1
  split at he
  ·
   rename_i b hb
   have e1:(c.args.toList.map a.eval).toArray=c.args.map a.eval:=by apply Array.ext';simp
   obtain⟨cs,e2⟩:∃ cs,(do let d ← resolve a.eval c o.type;invoke d.target d.args)=builtin b c.argTypes o.type cs (c.args.map a.eval):=⟨_,by simp only [resolve,hb];rfl⟩
   rw[e2]
   have:=builtinA_next h h2 he o.type cs
   rw[e1] at this
   exact this
  · cases he
 case h_23 t =>
  obtain⟨e',h1,rfl⟩:=Option.map_eq_some_iff.1 he
  exact(makeMap_does h t).next
 case h_24 t m k ok =>
  obtain⟨u,h1,he⟩:=Option.bind_eq_some_iff.1 he
  obtain⟨v,h2,he⟩:=Option.bind_eq_some_iff.1 he
  obtain⟨z,h3,rfl⟩:=pureV_some he
  exact(lookupA_does h (hr.eval h1) (hr.eval h2) h3).next
 case h_25 t m k x =>
  obtain⟨u,h1,he⟩:=Option.bind_eq_some_iff.1 he
  obtain⟨v,h2,he⟩:=Option.bind_eq_some_iff.1 he
  obtain⟨y,h3,he⟩:=Option.bind_eq_some_iff.1 he
  obtain⟨w',q1,q2,q3,q4⟩:=updA_next h (hr.eval h1) (hr.eval h2) (hr.eval h3) he
  exact⟨ι,undef,w',.inr ⟨rfl,by simp [q1]⟩,(by rw[q2];exact .tuple rfl (fun i x y hx=>by simp at hx)),q3,q4⟩
 case h_26=>cases he
end Go.AM
