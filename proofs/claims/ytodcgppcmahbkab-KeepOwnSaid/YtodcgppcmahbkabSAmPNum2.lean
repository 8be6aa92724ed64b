/- Part of a machine of its own for this claim: the program's code over memory without draws. -/
import Derived.Test.YtodcgppcmahbkabSAmPNum
set_option linter.unusedVariables false
set_option linter.unusedSimpArgs false
set_option linter.unnecessarySimpa false
/- Frames: what the code's pieces come to. -/
set_option linter.unusedSimpArgs false
namespace Go.AM.Spec
open Go Go.RowKit
theorem open_all {l:List Int} (hb:Bytes l):((openF l).2.2.2=0→1≤(openF l).1∧(openF l).1≤255∧(openF l).2.1.length≤4000∧6≤(openF l).2.2.1∧(openF l).2.2.1≤l.length∧(openF l).2.2.1≤4020)∧(0≤(openF l).2.2.2∧(openF l).2.2.2≤3)∧((openF l).2.2.2≠0→(openF l).1=0∧(openF l).2.1 = []∧(openF l).2.2.1=0)∧Bytes (openF l).2.1:=by
 rcases open_iff hb with h | h | h
 ·
  obtain⟨h1,h2,h3,h4,h5,h6⟩:=openF_frame hb h
  have h7:=frameF_length (openF l).1 (openF l).2.1
  have h8:=enc_len_small (n:=(openF l).2.1.length) h3
  have h9:=frameF_pos (openF l).1 (openF l).2.1
  refine⟨fun _=>⟨h1,h2,h3,by omega,by omega,by omega⟩,by omega,fun q=>absurd h q,?_⟩
  have hf:Bytes (frameF (openF l).1 (openF l).2.1):=h6 ▸ hb.take _
  unfold frameF at hf
  exact Bytes.right (Bytes.right hf)
 · rw[h];exact⟨fun q=>absurd q (by decide),by decide,fun _=>⟨rfl,rfl,rfl⟩,Bytes.nil⟩
 · rw[h];exact⟨fun q=>absurd q (by decide),by decide,fun _=>⟨rfl,rfl,rfl⟩,Bytes.nil⟩
theorem seal_is {kind:Int} {b:List Int} (hk:0≤kind∧kind<256):(([kind]++enc (zig (b.length:Int)))++four (((crcMore (((crcMore 0 ([kind]++enc (zig (b.length:Int))):Nat):Int)).toNat b:Nat):Int)).toNat)++b=frameF kind b:=by
 rw[Int.toNat_natCast,Int.toNat_natCast,show[kind]++enc (zig (b.length:Int))=headF kind b.length from rfl,crcMore_append 0 _ _ (by decide) (headF_bytes (n:=b.length) hk)]
 unfold frameF
 simp
theorem str_inj {a b:List Int} (ha:Bytes a) (hb:Bytes b):((strOfNums a).toList=(strOfNums b).toList) ↔ a=b:=⟨strOfNums_inj ha hb,fun h=>by rw[h]⟩
theorem drop1 {l L1:List Int} (h:L1=(l.drop 1).take (l.length - 1)):l.drop 1=L1:=by rw[h,List.take_of_length_le];rw[List.length_drop];exact Nat.le_refl _
theorem openF_ne {l L1:List Int} {c n k e:Int} (h0:l[0]?=some c) (hL1:L1=(l.drop 1).take (l.length - 1)) (hR:numGet 0 0 L1=(n,k,e)):openF l =
  if c=0 then(0,[],0,3)
  else if e=2∧l.length≤2 then(0,[],0,2)
  else if e≠0∨n<0∨n > 4000 then(0,[],0,3)
  else if (l.length:Int)<1+k+4+n then(0,[],0,2)
  else if four (crcMore 0 (l.take (1+k.toNat)++(l.drop (1+k.toNat+4)).take n.toNat))=(l.drop (1+k.toNat)).take 4
   then(c,(l.drop (1+k.toNat+4)).take n.toNat,1+k+4+n,0)
  else(0,[],0,3):=by
 have h1:=drop1 hL1
 cases l with
 | nil=>simp at h0
 | cons a r =>
  simp at h0 h1
  subst h0 h1
  simp only [openF,hR]
theorem openF_0 {l:List Int} (h0:l[0]?=some 0):openF l=(0,[],0,3):=by
 cases l with
 | nil=>simp at h0
 | cons a r=>simp at h0;subst h0;simp [openF]
theorem open_end {l L1 L2 L3 L4:List Int} {c n k:Int} (hb:Bytes l) (h0:l[0]?=some c) (hL1:L1=(l.drop 1).take (l.length - 1)) (hR:numGet 0 0 L1=(n,k,0)) (hc:c≠0) (hn:0≤n∧n≤4000) (hk:1≤k∧k≤10) (hlen:¬ (l.length:Int)<1+k+4+n)
  (hL2:L2=(l.drop (1+k+4).toNat).take ((1+k+4+n).toNat - (1+k+4).toNat)) (hL3:L3=(l.drop 0).take ((1+k).toNat - 0)) (hL4:L4=(l.drop (1+k).toNat).take ((1+k+4).toNat - (1+k).toNat)) :
  ((strOfNums (four (((crcMore (((crcMore 0 L3:Nat):Int)).toNat L2:Nat):Int)).toNat)).toList=(strOfNums L4).toList→openF l=(c,L2,1+k+4+n,0))∧((strOfNums (four (((crcMore (((crcMore 0 L3:Nat):Int)).toNat L2:Nat):Int)).toNat)).toList≠(strOfNums L4).toList→openF l=(0,[],0,3)):=by
 have e1:(1+k).toNat=1+k.toNat:=by omega
 have e2:(1+k+4).toNat=1+k.toNat+4:=by omega
 have b3:Bytes L3:=by rw[hL3];exact(hb.drop _).take _
 have b4:Bytes L4:=by rw[hL4];exact(hb.drop _).take _
 rw[e2,show(1+k+4+n).toNat - (1+k.toNat+4)=n.toNat by omega] at hL2
 rw[Nat.sub_zero,List.drop_zero,e1] at hL3
 rw[e1,e2,show 1+k.toNat+4 - (1+k.toNat)=4 by omega] at hL4
 have hcrc:crcMore (((crcMore 0 L3:Nat):Int)).toNat L2=crcMore 0 (L3++L2):=by rw[Int.toNat_natCast,crcMore_append 0 _ _ (by decide) b3]
 rw[hcrc,Int.toNat_natCast]
 have key:=openF_ne h0 hL1 hR
 rw[if_neg hc,if_neg (by omega),if_neg (by omega),if_neg hlen,← hL2,← hL3,← hL4] at key
 refine⟨fun h=>?_,fun h=>?_⟩
 · rw[key,if_pos ((str_inj (four_bytes _) b4).1 h)]
 · rw[key,if_neg (fun q=>h (by rw[q]))]
end Go.AM.Spec
