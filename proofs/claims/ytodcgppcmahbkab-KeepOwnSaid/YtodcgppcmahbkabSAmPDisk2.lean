/- Part of a machine of its own for this claim: the program's code over memory without draws. -/
import Derived.Test.YtodcgppcmahbkabSAmPDisk
import Derived.Shelf.SlIter.Nil
import Derived.Shelf.SortM.Plain
import Derived.Shelf.SortM.SortNone
import Derived.Ground.GgzProg
import Derived.Ground.SlgmProg
set_option linter.unusedVariables false
set_option linter.unusedSimpArgs false
set_option linter.unnecessarySimpa false
/- Files that crash: all names; what a crash leaves. -/
set_option linter.unusedSimpArgs false
namespace Go.AM
open Go Spec
open Go.Proofs (encStr)
/-- A row of texts. -/
def strC (s:ByteArray):List Value := [.string s]
namespace Spec
/-- All names, in order. -/
def namesF (l:Files):List ByteArray:=(sortB (l.map fun e=>e.1.data.toList)).map fun b=>⟨b.toArray⟩
/-- How much of a file lasts. -/
def keepN (f:FileS) (n:Int):Int:=if 0≤n then f.lasts+n.tmod ((f.b.length:Int) - f.lasts+1) else f.lasts
def crash1 (l:Files) (n:Int) (nm:ByteArray):Option (ByteArray×FileS) :=
 match fget nm l with
 | none=>none
 | some f=>if 0<keepN f n∨f.there=true then some (nm,⟨f.b.take (keepN f n).toNat,keepN f n,true⟩) else none
/-- What a crash leaves. -/
def crashF (l:Files) (n:Int):Files:=(namesF l).filterMap (crash1 l n)
theorem names_perm (l:Files):(namesF l).Perm (l.map (·.1)):=by
 have h:(sortB (l.map fun e=>e.1.data.toList)).Perm (l.map fun e=>e.1.data.toList):=List.mergeSort_perm _ _
 have:=h.map fun b:List UInt8=>(⟨b.toArray⟩:ByteArray)
 rw[List.map_map] at this
 refine this.trans (List.Perm.of_eq ?_)
 apply List.map_congr_left
 intro e _
 simp
theorem names_length (l:Files):(namesF l).length=l.length:=by rw[(names_perm l).length_eq,List.length_map]
theorem names_nodup {l:Files} (h:(l.map (·.1)).Nodup):(namesF l).Nodup:=(names_perm l).nodup_iff.2 h
theorem fget_mem {s:ByteArray}:∀ {l:Files},s ∈ l.map (·.1)→∃ f,fget s l=some f
 | [],h=>by cases h
 | (k,g) :: l,h=>by
  unfold fget
  by_cases c:(s == k)=true
  · exact⟨g,if_pos c⟩
  ·
   rw[if_neg c]
   rcases List.mem_cons.1 h with h | h
   · exact absurd ((MapKept.bytes_beq s k).2 h) c
   · exact fget_mem h
theorem fget_no {s:ByteArray}:∀ {l:Files},s ∉ l.map (·.1)→fget s l=none
 | [],_=>rfl
 | (k,g) :: l,h=>by
  unfold fget
  rw[if_neg fun c=>h (by rw[(MapKept.bytes_beq s k).1 c];exact List.mem_cons_self)]
  exact fget_no fun c=>h (List.mem_cons_of_mem _ c)
theorem names_get {l:Files} {i:Nat} {nm:ByteArray} (h:(namesF l)[i]?=some nm):∃ f,fget nm l=some f :=
 fget_mem ((names_perm l).mem_iff.1 (List.mem_of_getElem? h))
theorem crash1_name {l:Files} {n:Int} {nm:ByteArray} {e:ByteArray×FileS} (h:crash1 l n nm=some e):e.1=nm:=by
 unfold crash1 at h
 split at h
 · cases h
 ·
  split at h
  · cases h;rfl
  · cases h
theorem crash_keys {l:Files} {n:Int}:∀ {ns:List ByteArray} {x:ByteArray},x ∈ (ns.filterMap (crash1 l n)).map (·.1)→x ∈ ns:=by
 intro ns x h
 obtain⟨e,he,rfl⟩:=List.mem_map.1 h
 obtain⟨m,hm,hc⟩:=List.mem_filterMap.1 he
 rw[crash1_name hc]
 exact hm
theorem crash_new {l:Files} {n:Int} {i:Nat} {nm:ByteArray} (hn:(namesF l).Nodup) (h:(namesF l)[i]?=some nm):fget nm (((namesF l).take i).filterMap (crash1 l n))=none:=by
 refine fget_no fun c=>?_
 have h1:=crash_keys c
 obtain⟨j,hj⟩:=List.mem_iff_getElem?.1 h1
 rw[List.getElem?_take] at hj
 split at hj
 ·
  rename_i hji
  obtain⟨h3,h4⟩:=List.getElem?_eq_some_iff.1 hj
  obtain⟨h5,h6⟩:=List.getElem?_eq_some_iff.1 h
  have:=(List.getElem_inj hn).1 (h4.trans h6.symm)
  omega
 · cases hj
theorem crash_step {l:Files} {n:Int} {i:Nat} {nm:ByteArray} (h:(namesF l)[i]?=some nm):((namesF l).take (i+1)).filterMap (crash1 l n)=((namesF l).take i).filterMap (crash1 l n)++(crash1 l n nm).toList:=by
 obtain⟨h1,h2⟩:=List.getElem?_eq_some_iff.1 h
 rw[List.take_add_one,List.filterMap_append,h]
 cases hc:crash1 l n nm <;> simp [hc]
theorem keep_neg {f:FileS} {n:Int} (h:¬ 0≤n):keepN f n=f.lasts:=if_neg h
theorem keep_eq {l:Files} {nm:ByteArray} {f:FileS} {n r:Int} (h:0≤n) (hf:fget nm l=some f) (hr:Int.tmod n (looseF l nm+1)=r):keepN f n=f.lasts+r:=by
 unfold keepN
 rw[if_pos h,← hr]
 unfold looseF
 rw[hf]
theorem rem_bounds {l:Files} {nm:ByteArray} {f:FileS} {n r:Int} (h:0≤n) (hf:fget nm l=some f) (h1:f.lasts≤f.b.length) (hr:Int.tmod n (looseF l nm+1)=r):0≤r∧r≤(f.b.length:Int) - f.lasts:=by
 have he:looseF l nm=(f.b.length:Int) - f.lasts:=by unfold looseF;rw[hf]
 rw[he] at hr
 have h2:=Int.tmod_lt_of_pos n (show 0<(f.b.length:Int) - f.lasts+1 by omega)
 have h3:=Int.tmod_nonneg ((f.b.length:Int) - f.lasts+1) h
 omega
theorem crash1_yes {l:Files} {n:Int} {nm:ByteArray} {f:FileS} (h:fget nm l=some f) (hk:0<keepN f n∨f.there=true):crash1 l n nm=some (nm,⟨f.b.take (keepN f n).toNat,keepN f n,true⟩):=by
 unfold crash1
 rw[h]
 exact if_pos hk
theorem crash1_no {l:Files} {n:Int} {nm:ByteArray} {f:FileS} (h:fget nm l=some f) (hk:¬ (0<keepN f n∨f.there=true)):crash1 l n nm=none:=by
 unfold crash1
 rw[h]
 exact if_neg hk
end Spec
theorem keysL_cells : ∀ {l:Files} {ps:List Place},l.length=ps.length→keysL (cellsM l ps)=(l.map fun e=>e.1.data.toList)∧(cellsM l ps).length=2 * l.length
 | [],[],_=>⟨rfl,rfl⟩
 | [],_ :: _,h=>by cases h
 | _ :: _,[],h=>by cases h
 | e :: l,q :: ps,h=>by
  obtain⟨h1,h2⟩:=keysL_cells (l:=l) (ps:=ps) (by simpa using h)
  exact⟨by rw[cellsM,keysL,h1];rfl,by simp only [cellsM,List.length_cons,h2];omega⟩
/-- All names of a map. -/
theorem names_am {P:Program} {H:Heap} {f g:FuncId} {k:TypeId} (hC:SortedK P f g k) {bb mb:Nat} {l:Files} {ps:List Place} (hl:l.length=ps.length) (h1:H.blk bb=some ⟨[.map (some mb)],0,false,false⟩) (h2:H.blk mb=some ⟨cellsM l ps,0,false,true⟩) (hb:l.length≤1099511627776) :
  ∃ v H',Spec P f [.func (.func g) #[] #[.pointer (some ⟨bb,0,none⟩)]] H v H'∧∃ A c,v = .slice A (namesF l).length c∧My H H' A c 1 ((namesF l).map strC)∧Ext H H':=by
 obtain⟨k1,k2⟩:=keysL_cells hl
 have hS:=sorted_am hC h1 h2 (by rw[k2];omega)
 have hn:(keysL (cellsM l ps)).length=l.length:=by rw[k1,List.length_map]
 refine⟨_,_,hS,?_⟩
 unfold sortedV sortedH
 by_cases hz:keysL (cellsM l ps) = []
 ·
  have h0:l.length=0:=by rw[← hn,hz];rfl
  have hN:namesF l = []:=List.eq_nil_of_length_eq_zero (by rw[names_length];exact h0)
  rw[if_pos hz,if_pos hz,hN]
  exact⟨none,0,rfl,.nil,.refl _⟩
 ·
  rw[if_neg hz,if_neg hz]
  obtain⟨m1,m2,m3⟩:=make_facts H ⟨(sortedL (cellsM l ps)).map encStr,1,false,true⟩
  have hc:(sortedL (cellsM l ps)).map encStr=((namesF l).map strC).flatten:=by
   unfold sortedL namesF
   rw[k1,List.map_map]
   show(sortB _).map _=_
   induction sortB (l.map fun e=>e.1.data.toList) with
   | nil=>rfl
   | cons a r ih=>rw[List.map_cons,List.map_cons,List.flatten_cons,ih];rfl
  refine⟨some ⟨H.next,0,none⟩,OPEN,by rw[names_length,hn],?_,⟨by rw[m1];exact Nat.le_succ _,fun q hq=>m3 q (by omega)⟩⟩
  refine my_make (Nat.le_refl _) (by rw[m1];exact Nat.lt_succ_self _) (by rw[m2,hc]) (fun r hr=>?_) (.inl ⟨rfl,rfl⟩)
  obtain⟨s,_,rfl⟩:=List.mem_map.1 hr
  rfl
/-- What is told of a file that is there. -/
theorem DiskR.found {D:Nat→Prop} {H:Heap} {p mb:Nat} {l:Files} {ps:List Place} {k:Int} (h:DiskR D H p mb l ps k) {nm:ByteArray} {f:FileS} (hf:fget nm l=some f):∃ q:Place,mapGet nm (cellsM l ps)=some (.pointer (some ⟨q.1,0,none⟩))∧FileAt D H q f:=by
 obtain⟨i,q,h1,h2,h3,_⟩:=fget_some h.len hf
 exact⟨q,h3,h.at_ i _ q h1 h2⟩
theorem DiskR.names_nodup {D:Nat→Prop} {H:Heap} {p mb:Nat} {l:Files} {ps:List Place} {k:Int} (h:DiskR D H p mb l ps k):(namesF l).Nodup:=Spec.names_nodup h.nodup
end Go.AM
namespace Go.AM
open Go Spec
section
variable {D : Nat → Prop} {H H' G : Heap} {p mb b c : Nat} {A : Option Addr} {l : Files} {ps : List Place} {k : Int} {f' : FileS} {s : ByteArray}
theorem DiskR.ext (h:DiskR D H p mb l ps k) (x:Ext H H'):DiskR D H' p mb l ps k:=h.fr (x.fr fun _=>False) fun _ _ e=>e
/-- A file that was not there. -/
theorem DiskR.put_new (r:DiskR D H p mb l ps k) (x:Fr (fun q=>q=mb) H H') (hm:H'.blk mb=some ⟨mapPut s (.pointer (some ⟨b,0,none⟩)) (cellsM l ps),0,false,true⟩) (hb:H.next≤b∧b<H'.next)
  (hB:H'.blk b=some ⟨[.slice A f'.b.length c,.int .i64 f'.lasts,.bool f'.there],0,false,false⟩) (hr:My G H' A c 1 (f'.b.map u8c)) (hG:H.next≤G.next) (h1:Spec.Bytes f'.b) (h2:f'.b.length≤1048576) (h3:0≤f'.lasts∧f'.lasts≤f'.b.length) (hn:fget s l=none) (hs:nameF s=true) :
  DiskR (grow D H H') H' p mb (l ++ [(s,f')]) (ps ++ [(b,A,c)]) k:=by
 obtain⟨_,_,g3,g4⟩:=fget_none r.len hn
 exact r.add x (fun x _ e => .inr (.inl e)) ((x.2 _ (r.below _ r.dp) (fun e=>r.ne_m e.symm)).trans r.blk) (by rw[hm,g4 f' (b,A,c)])
  ⟨.inr hb,fun y hy => .inr ⟨Nat.le_trans hG (hr.inNew y hy),inA.lt hr y hy⟩,hB,My.older hr (Nat.zero_le _),h1,h2,h3.1,h3.2⟩ hb.1 (fun y hy=>Nat.le_trans hG (hr.inNew y hy)) r.kb hs g3
theorem DiskR.name_of (r:DiskR D H p mb l ps k) {i:Nat} {nm:ByteArray} (h:(namesF l)[i]?=some nm):nameF nm=true:=by
 obtain⟨e,he,rfl⟩:=List.mem_map.1 ((names_perm l).mem_iff.1 (List.mem_of_getElem? h))
 exact r.names e he
theorem name_size {nm:ByteArray} (h:nameF nm=true):nm.size≤10:=by
 unfold nameF at h
 simp only [Bool.and_eq_true,decide_eq_true_eq] at h
 exact h.2.2
end
end Go.AM
