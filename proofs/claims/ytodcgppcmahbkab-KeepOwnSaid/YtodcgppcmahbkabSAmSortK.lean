/- Part of a machine of its own for this claim: the program's code over memory without draws. -/
import Derived.Test.YtodcgppcmahbkabSAmB
import Derived.Test.YtodcgppcmahbkabSAmA
import Derived.Sort.KeysCollected
set_option linter.unusedVariables false
set_option linter.unusedSimpArgs false
set_option linter.unnecessarySimpa false
/- slices.Sorted(maps.Keys(m)): what the kit's contract says, in our memory. -/
namespace Go.AM
open Go Go.MapKept Go.Maps Go.Sort
open Go.Proofs (encStr)
variable {P : Program} {ι : Map} {H : Heap} {w : World}
/-- What the kit's contract says. -/
def SortedK (P:Program) (f g:FuncId) (k:TypeId):Prop :=
 P.underlying k=some .string∧∀ (Bm b nn:Nat) (D0:DataW Unit) (R:Value→Option (DataW Unit×List MemPlace)) (w:World),Bm<w.heap.size→w.cell? ⟨Bm,0,none⟩=some (.map (some b))→w.ownsMap P k R b nn D0→Maps.size D0≤maxLen→Maps.size D0 * 16≤140737488355328 →
  Calls P f #[.func (.func g) #[] #[.pointer (some ⟨Bm,0,none⟩)]] w fun e w'=>∃ (v:Value) (ss:List (List UInt8)),e = .returned v∧ss.Perm (strKeys D0) ∧
   w'.ownsRow w.heap.size k 1 v ss.length ((ss.mergeSort leB).map encStr)∧(v = .slice none 0 0 ↔ ss = [])∧RowKit.Below w.heap.size w w'
/-- A map's keys, as they came. -/
def keysL : List Value→List (List UInt8)
 | .string s :: _ :: r=>s.data.toList :: keysL r
 | _ => []
/-- Texts, sorted. -/
def sortB (l:List (List UInt8)):List (List UInt8):=l.mergeSort leB
/-- .. sorted. -/
def sortedL (M:List Value):List (List UInt8):=sortB (keysL M)
theorem sortedL_length (M:List Value):(sortedL M).length=(keysL M).length:=List.length_mergeSort ..
/-- What comes out. -/
def sortedV (M:List Value) (H:Heap):Value:=if keysL M = [] then .slice none 0 0 else .slice (some ⟨H.next,0,none⟩) (keysL M).length OPEN
def sortedH (M:List Value) (H:Heap):Heap:=if keysL M = [] then H else H.make ⟨(sortedL M).map encStr,1,false,true⟩
/-- What stays below stays. -/
theorem R.below (h:R ι H w) {w':World} (hb:∀ c,c<w.heap.size→w'.heap[c]?=w.heap[c]?):R ι H w' :=
 ⟨h.dom,fun b B hB=>by
  obtain⟨L,hL,hbr⟩:=h.live b B hB
  exact⟨L,hL,hbr.mono (Map.le.refl ι) (hb _ hbr.lt)⟩,h.apart⟩
theorem make_below (h:R ι H w) {B:Blk} {L:Loc} {w':World} (hLb:w.heap.size≤L.blk) (hrd:B.rd=false) (hw:RowKit.Below w.heap.size w w') (hbr:BR (ι.set H.next L) w' B L) :
  R (ι.set H.next L) (H.make B) w'∧Step ι H w (ι.set H.next L) (H.make B) w':=by
 have hle:ι.le (ι.set H.next L):=Map.le_set h.dom
 have hold:∀ c,c<w.heap.size→w'.heap[c]?=w.heap[c]?:=hw.block
 have hin:∀ b B L,H.blk b=some B→ι b=some L→L.blk<w.heap.size:=fun b B L hb hL=>by
  obtain⟨L',hL',hbr⟩:=h.live b B hb
  rw[hL] at hL'
  cases hL'
  exact hbr.lt
 refine⟨⟨?_,?_,?_⟩,⟨hle,Nat.le_succ _,hw.os,hw.tape,hw.output,hw.size,fun c hc _=>hold c hc,?_,fun b B hb hr=>?_,fun b L hb=>?_⟩⟩
 ·
  intro b L hb
  simp only [Map.set] at hb
  simp only [Heap.make]
  split at hb
  · omega
  · have:=h.dom b L hb;omega
 ·
  intro b B' hb
  simp only [Heap.make] at hb
  split at hb
  ·
   rename_i e
   cases hb
   subst e
   exact⟨L,by simp [Map.set],hbr⟩
  ·
   rename_i e
   obtain⟨L',hL,hbr⟩:=h.live b B' hb
   exact⟨L',hle _ _ hL,hbr.mono hle (hold _ (hin b B' L' hb hL))⟩
 ·
  intro b b' B1 B' L1 L' hne hb hb' hl hl' hrd
  simp only [Heap.make] at hb hb'
  simp only [Map.set] at hl hl'
  by_cases e1:b=H.next
  ·
   rw[if_pos e1] at hb hl
   have e2:b'≠H.next:=fun x=>hne (e1.trans x.symm)
   rw[if_neg e2] at hb' hl'
   cases hl
   have:=hin b' B' L' hb' hl'
   omega
  ·
   rw[if_neg e1] at hb hl
   by_cases e2:b'=H.next
   ·
    rw[if_pos e2] at hb' hl'
    cases hl'
    have:=hin b B1 L1 hb hl
    omega
   ·
    rw[if_neg e2] at hb' hl'
    exact h.apart b b' B1 B' L1 L' hne hb hb' hl hl' hrd
 ·
  intro c hc
  obtain⟨b,B',L',p,q,r,s⟩:=hc
  simp only [Heap.make] at p
  simp only [Map.set] at q
  by_cases e1:b=H.next
  ·
   rw[if_pos e1] at q
   cases q
   exact .inr (by omega)
  ·
   rw[if_neg e1] at p q
   exact .inl ⟨b,B',L',p,q,r,s⟩
 ·
  simp only [Heap.make] at hb
  split at hb
  · cases hb;rw[hrd] at hr;cases hr
  · exact hb
 ·
  simp only [Map.set] at hb
  split at hb
  · exact .inr (by omega)
  · exact .inl hb
/-- The keys of a map of ours are the given machine's. -/
theorem keys_rg {k:TypeId} (hk:P.underlying k=some .string):∀ {M:List Value} {es:List MapEntry},EsR ι M es →
  (∀ x ∈ es,∃ y,WideElems.rd P k (fun _=>some ((DataW.nil:DataW Unit),[])) x=some y)∧(es.map (WideElems.rg P k (fun _=>some ((DataW.nil:DataW Unit),[])))).map (fun p=>strOf p.1)=keysL M∧M.length=2 * es.length
 | [],[],_=>⟨fun _ h=>(by cases h),rfl,rfl⟩
 | [],_ :: _,h=>h.elim
 | [_],_,h=>h.elim
 | _ :: _ :: _,[],h=>h.elim
 | _ :: _ :: _,e :: es,h=>by
  obtain⟨⟨s,hs,rfl⟩,hke,_,hr⟩:=h
  obtain⟨h1,h2,h3⟩:=keys_rg hk hr
  have hd:WideElems.rd P k (fun _=>some ((DataW.nil:DataW Unit),[])) e=some (.string s.data.toList,.nil):=by
   unfold WideElems.rd
   rw[hke,WideMaps.keyOf_string_mk hk (by unfold maxLen;omega)]
   rfl
  refine⟨fun x hx=>?_,?_,by simp only [List.length_cons,h3];omega⟩
  ·
   rcases List.mem_cons.1 hx with rfl | hx
   · exact⟨_,hd⟩
   · exact h1 x hx
  ·
   rw[List.map_cons,List.map_cons,h2,WideElems.rg_of hd]
   rfl
/-- slices.Sorted(maps.Keys(m)). -/
theorem sorted_am {f g:FuncId} {k:TypeId} (hC:SortedK P f g k) {bb mb:Nat} {M:List Value} (h1:H.blk bb=some ⟨[.map (some mb)],0,false,false⟩) (h2:H.blk mb=some ⟨M,0,false,true⟩) (hM:M.length * 8≤140737488355328) :
  Spec P f [.func (.func g) #[] #[.pointer (some ⟨bb,0,none⟩)]] H (sortedV M H) (sortedH M H):=by
 intro ι w args' hR hA
 obtain⟨hk,hC⟩:=hC
 obtain⟨v',rfl,hv⟩:∃ v',args' = #[v']∧VR ι (.func (.func g) #[] #[.pointer (some ⟨bb,0,none⟩)]) v':=by
  obtain⟨l⟩:=args'
  obtain⟨x',rfl,hx⟩:=hA.one
  exact⟨x',rfl,hx⟩
 obtain⟨L,hL,hbr⟩:=hR.live bb _ h1
 obtain⟨Lm,hLm,hbm⟩:=hR.live mb _ h2
 have hoff:L.off=0:=hbr.off rfl rfl
 obtain rfl:v' = .func (.func g) #[] #[.pointer (some ⟨L.blk,0,none⟩)]:=by
  cases hv with
  | func _ hn hh =>
   rename_i ys
   obtain⟨l⟩:=ys
   obtain⟨x',rfl,hx⟩:=AsR.one (ι:=ι) ⟨hn,hh⟩
   cases hx with
   | ptr ha =>
    obtain⟨_,L',hL',rfl⟩:=ha
    rw[hL] at hL'
    cases hL'
    simp [hoff]
 obtain⟨C,el,lo,hi,hb1,hb2,hb3,_⟩:=hbr.obj rfl
 obtain⟨x',hx',hxr⟩:=hb3 0 _ rfl
 obtain⟨L',hL',rfl⟩:=hxr.map_inv
 rw[hLm] at hL'
 cases hL'
 obtain⟨_,es,clock,hm1,hm2,hm3⟩:=hbm.mapo rfl
 rw[hoff] at hx'
 have hcell:w.cell? ⟨L.blk,0,none⟩=some (.map (some Lm.blk)):=by
  simp only [World.cell?,hb1]
  simpa using hx'
 obtain⟨k1,k2,k3⟩:=keys_rg (P:=P) hk hm2
 have hsz:es.size=es.toList.length:=by simp
 have hperm:=WideShapes.sorted_perm (es.toList.map (WideElems.rg P k (fun _=>some ((DataW.nil:DataW Unit),[]))))
 have hown:w.ownsMap P k (fun _=>some ((DataW.nil:DataW Unit),[])) Lm.blk es.size (.map ((es.toList.map (WideElems.rg P k (fun _=>some ((DataW.nil:DataW Unit),[])))).foldr DataW.insert [])) :=
  ⟨es,clock,hm1,⟨by simp only [] at k3;unfold maxLen;omega,hm3,k1⟩,Nat.le_refl _,rfl⟩
 have hsize:Maps.size (H:=Unit) (.map ((es.toList.map (WideElems.rg P k (fun _=>some ((DataW.nil:DataW Unit),[])))).foldr DataW.insert []))=es.size:=by
  rw[Maps.size_eq,hperm.length_eq,List.length_map,hsz]
 have hks:(strKeys (H:=Unit) (.map ((es.toList.map (WideElems.rg P k (fun _=>some ((DataW.nil:DataW Unit),[])))).foldr DataW.insert []))).Perm (keysL M):=by
  rw[← k2]
  exact hperm.map _
 refine(hC L.blk Lm.blk es.size _ _ w hbr.lt hcell hown (by rw[hsize];simp only [] at k3;unfold maxLen;omega) (by rw[hsize];simp only [] at k3;omega)).mono ?_
 rintro e w' ⟨v,ss,rfl,hp,hrow,hnil,hb⟩
 have hpk:ss.Perm (keysL M):=hp.trans hks
 have hsl:ss.mergeSort leB=sortedL M:=mergeSort_of_perm hpk
 by_cases hz:keysL M = []
 ·
  have hs0:ss = []:=by rw[hz] at hpk;exact hpk.eq_nil
  have hv0:=hnil.2 hs0
  subst hv0
  unfold sortedV sortedH
  rw[if_pos hz,if_pos hz]
  exact⟨_,ι,rfl,.nilsl,hR.below hb.block,⟨Map.le.refl ι,Nat.le_refl _,hb.os,hb.tape,hb.output,hb.size,fun c hc _=>hb.block c hc,fun c hc => .inl hc,fun _ _ h _=>h,fun _ _ h => .inl h⟩⟩
 ·
  unfold sortedV sortedH
  rw[if_neg hz,if_neg hz]
  have hs0:ss ≠ []:=fun e=>hz (by rw[e] at hpk;exact hpk.symm.eq_nil)
  have hlen:ss.length=(keysL M).length:=hpk.length_eq
  rw[hsl] at hrow
  obtain⟨_,⟨e,_⟩ | ⟨g',cap,cur,rfl,hg,hgb,r1,r2,r3,r4⟩⟩:=hrow
  · exact absurd (hnil.1 e) hs0
  ·
   have hB:BR (ι.set H.next ⟨g',0,1,cap⟩) w' ⟨(sortedL M).map encStr,1,false,true⟩ ⟨g',0,1,cap⟩:=by
    refine⟨rfl,fun _ h=>(by cases h),fun _=>?_,fun _ h=>(by cases h),fun h=>(by cases h),fun _=>⟨cur,k,0,0,hgb,?_,fun i v hv=>?_,fun _=>⟨by simp only [];omega,.inl rfl⟩⟩⟩
    · simp only [List.length_map,sortedL_length];omega
    · simp only [List.length_map,sortedL_length];omega
    ·
     have hi:i<ss.length * 1:=by
      have:=(List.getElem?_eq_some_iff.1 hv).1
      simp only [List.length_map,sortedL_length] at this
      omega
     simp only at hv
     rw[← r4,List.getElem?_take,if_pos hi] at hv
     refine⟨v,by simpa using hv,?_⟩
     have hm:v ∈ cur.toList.take (ss.length * 1):=List.mem_of_getElem? (i:=i) (by rw[List.getElem?_take,if_pos hi];exact hv)
     rw[r4] at hm
     obtain⟨x,_,rfl⟩:=List.mem_map.1 hm
     exact .string _
   obtain⟨q1,q2⟩:=make_below hR (L:=⟨g',0,1,cap⟩) hg (by rfl) hb hB
   have hsr:SR (ι.set H.next ⟨g',0,1,cap⟩) ⟨H.next,0,none⟩ (keysL M).length OPEN ⟨g',0,none⟩ cap:=⟨rfl,by omega,fun h=>absurd h (Nat.lt_irrefl _),⟨g',0,1,cap⟩,by simp [Map.set],fun _=>rfl,fun _=>by simp⟩
   rw[hlen]
   exact⟨_,_,rfl,.sl hsr,q1,q2⟩
end Go.AM
