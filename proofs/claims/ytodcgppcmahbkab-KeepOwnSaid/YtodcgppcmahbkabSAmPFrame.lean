/- Part of a machine of its own for this claim: the program's code over memory without draws. -/
import Derived.Test.YtodcgppcmahbkabSAmE
set_option linter.unusedVariables false
set_option linter.unusedSimpArgs false
set_option linter.unnecessarySimpa false
/- Frames, records, in plain Lean. -/
set_option linter.unusedVariables false
set_option linter.unusedSimpArgs false
set_option linter.unnecessarySimpa false
namespace Go.AM.Spec
open Go Go.RowKit


/-- All are bytes. -/
def Bytes (l:List Int):Prop:=∀ x ∈ l,0≤x∧x<256
theorem Bytes.nil : Bytes []:=fun x hx=>by cases hx
theorem Bytes.cons {c:Int} {l:List Int} (hc:0≤c∧c<256) (h:Bytes l):Bytes (c :: l):=fun x hx=>by
  rcases List.mem_cons.1 hx with rfl | hx
  · exact hc
  · exact h x hx
theorem Bytes.append {a b:List Int} (ha:Bytes a) (hb:Bytes b):Bytes (a++b):=fun x hx=>by
  rcases List.mem_append.1 hx with h | h
  · exact ha x h
  · exact hb x h
theorem Bytes.left {a b:List Int} (h:Bytes (a++b)):Bytes a:=fun x hx=>h x (List.mem_append_left _ hx)
theorem Bytes.right {a b:List Int} (h:Bytes (a++b)):Bytes b:=fun x hx=>h x (List.mem_append_right _ hx)
theorem Bytes.take {l:List Int} (h:Bytes l) (n:Nat):Bytes (l.take n):=fun x hx=>h x (List.mem_of_mem_take hx)
theorem Bytes.drop {l:List Int} (h:Bytes l) (n:Nat):Bytes (l.drop n):=fun x hx=>h x (List.mem_of_mem_drop hx)
theorem Bytes.tail {c:Int} {l:List Int} (h:Bytes (c :: l)):Bytes l:=fun x hx=>h x (List.mem_cons_of_mem _ hx)
theorem bytes_of (s:ByteArray):Bytes (bytesOf s):=by
  intro x hx
  simp only [bytesOf,List.mem_map] at hx
  obtain⟨b,_,rfl⟩:=hx
  have:=b.toNat_lt
  omega

/-- A frame's head, and a frame. -/
def headF (kind:Int) (n:Nat):List Int:=kind :: enc (zig (n:Int))
def frameF (kind:Int) (b:List Int):List Int:=headF kind b.length++(four (crcMore 0 (headF kind b.length++b))++b)
def sealF (kind:Int) (b:List Int):List Int:=if kind<1∨kind > 255∨b.length > 4000 then[] else frameF kind b
def openF (l:List Int):Int×List Int×Int×Int :=
  match l with
  | []=>(0,[],0,2)
  | c :: r =>
    if c=0 then(0,[],0,3)
    else if (numGet 0 0 r).2.2=2∧l.length≤2 then(0,[],0,2)
    else if (numGet 0 0 r).2.2≠0∨(numGet 0 0 r).1<0∨(numGet 0 0 r).1 > 4000 then(0,[],0,3)
    else if (l.length:Int)<1+(numGet 0 0 r).2.1+4+(numGet 0 0 r).1 then(0,[],0,2)
    else if four (crcMore 0 (l.take (1+(numGet 0 0 r).2.1.toNat)++(l.drop (1+(numGet 0 0 r).2.1.toNat+4)).take (numGet 0 0 r).1.toNat))=(l.drop (1+(numGet 0 0 r).2.1.toNat)).take 4
      then(c,(l.drop (1+(numGet 0 0 r).2.1.toNat+4)).take (numGet 0 0 r).1.toNat,1+(numGet 0 0 r).2.1+4+(numGet 0 0 r).1,0)
    else(0,[],0,3)

theorem zig_len (n:Nat):zig (n:Int)=2 * n:=by unfold zig;rw[if_neg (by omega)];omega
theorem enc_len_small {n:Nat} (h:n≤4000):(enc (zig (n:Int))).length≤2:=enc_len (j:=2) (by rw[zig_len];omega) (by decide)
theorem headF_length {kind:Int} {n:Nat}:(headF kind n).length=1+(enc (zig (n:Int))).length:=by unfold headF;rw[List.length_cons];omega
theorem headF_bytes {kind:Int} {n:Nat} (hk:0≤kind∧kind<256):Bytes (headF kind n):=Bytes.cons hk (enc_bytes _)
theorem frameF_length (kind:Int) (b:List Int):(frameF kind b).length=1+(enc (zig (b.length:Int))).length+4+b.length:=by
  unfold frameF
  rw[List.length_append,List.length_append,headF_length,four_length]
  omega
theorem frameF_bytes {kind:Int} {b:List Int} (hk:0≤kind∧kind<256) (hb:Bytes b):Bytes (frameF kind b):=(headF_bytes hk).append (Bytes.append (four_bytes _) hb)
theorem sealF_bytes {kind:Int} {b:List Int} (hb:Bytes b):Bytes (sealF kind b):=by
  unfold sealF
  split
  · exact Bytes.nil
  · exact frameF_bytes (by omega) hb
theorem sealF_len {kind:Int} {b:List Int}:(sealF kind b).length≤4007:=by
  unfold sealF
  split
  · simp
  · rw[frameF_length]
    have:=enc_len_small (n:=b.length) (by omega)
    omega

/-- What is sealed is opened again, whatever stands behind. -/
theorem open_frame {kind:Int} {b:List Int} (hk:1≤kind∧kind≤255) (hb:b.length≤4000) (rest:List Int) :
    openF (frameF kind b++rest)=(kind,b,((frameF kind b).length:Int),0):=by
  have hg:=get_enc0 (b.length:Int) (by omega) (by omega) (four (crcMore 0 (headF kind b.length++b))++b++rest)
  have hl:=frameF_length kind b
  have e0:frameF kind b++rest=kind :: (enc (zig (b.length:Int))++(four (crcMore 0 (headF kind b.length++b))++b++rest)):=by
    unfold frameF
    conv=>lhs;rw[headF]
    simp [headF]
  have e1:(frameF kind b++rest).take (1+(enc (zig (b.length:Int))).length)=headF kind b.length:=by
    rw[e0,Nat.add_comm,List.take_succ_cons,List.take_append_of_le_length (Nat.le_refl _),List.take_length]
    rfl
  have e2:(frameF kind b++rest).drop (1+(enc (zig (b.length:Int))).length)=four (crcMore 0 (headF kind b.length++b))++b++rest:=by
    rw[e0,Nat.add_comm,List.drop_succ_cons,List.drop_left]
  have e3:(frameF kind b++rest).drop (1+(enc (zig (b.length:Int))).length+4)=b++rest:=by
    rw[← List.drop_drop,e2,List.append_assoc]
    exact List.drop_left (l₁:=four _)
  have hlen:(frameF kind b++rest).length=(frameF kind b).length+rest.length:=List.length_append
  generalize hL:frameF kind b++rest=L at *
  subst e0
  unfold openF
  simp only [hg,Int.toNat_natCast]
  rw[if_neg (by omega),if_neg (by omega),if_neg (by omega),if_neg (by rw[hlen,hl];omega),e1,e3,e2]
  have e4:(b++rest).take b.length=b:=List.take_left
  have e5:(four (crcMore 0 (headF kind b.length++b))++b++rest).take 4=four (crcMore 0 (headF kind b.length++b)):=by
    rw[List.append_assoc]
    exact List.take_left (l₁:=four _)
  rw[e4,e5,if_pos rfl,hl]
  congr 3
/-- What is cut off anywhere is the beginning of one. -/
theorem open_cut {kind:Int} {b:List Int} (hk:1≤kind∧kind≤255) (hb:b.length≤4000) (m:Nat) (hm:m<(frameF kind b).length) :
    openF ((frameF kind b).take m)=(0,[],0,2):=by
  have hl:=frameF_length kind b
  have hz:=enc_len_small hb
  have hp:=enc_pos (zig (b.length:Int))
  rcases m with _ | m
  · rfl
  · have e0:frameF kind b=kind :: (enc (zig (b.length:Int))++(four (crcMore 0 (headF kind b.length++b))++b)):=by
      unfold frameF
      conv=>lhs;rw[headF]
      simp [headF]
    have e1:(frameF kind b).take (m+1)=kind :: (enc (zig (b.length:Int))++(four (crcMore 0 (headF kind b.length++b))++b)).take m:=by rw[e0,List.take_succ_cons]
    have hlen:((frameF kind b).take (m+1)).length=m+1:=by rw[List.length_take];omega
    rw[e1] at hlen ⊢
    unfold openF
    simp only
    rw[if_neg (by omega)]
    rcases Nat.lt_or_ge m (enc (zig (b.length:Int))).length with h | h
    · have hg:numGet 0 0 ((enc (zig (b.length:Int))++(four (crcMore 0 (headF kind b.length++b))++b)).take m)=(0,0,2):=by
        rw[List.take_append_of_le_length (by omega)]
        exact get_cut _ 0 0 m (by simpa using zig_lt (n:=(b.length:Int)) (by omega) (by omega)) (by omega) h
      rw[hg,if_pos ⟨rfl,by rw[hlen];omega⟩]
    · have hg:numGet 0 0 ((enc (zig (b.length:Int))++(four (crcMore 0 (headF kind b.length++b))++b)).take m)=((b.length:Int),((enc (zig (b.length:Int))).length:Int),0):=by
        rw[List.take_append,List.take_of_length_le h]
        exact get_enc0 _ (by omega) (by omega) _
      rw[hg]
      simp only
      rw[if_neg (by omega),if_neg (by omega),if_pos (by rw[hlen];omega)]
/-- What a number was read of is just its bytes. -/
theorem numGet_canon (l:List Int):∀ (i u:Nat),Bytes l→u<2 ^ (7 * i)→i≤9→(numGet i u l).2.2=0 →
    ∃ v:Nat,l.take ((numGet i u l).2.1.toNat - i)=enc v∧u+v * 2 ^ (7 * i)<18446744073709551616∧(numGet i u l).1=zag (u+v * 2 ^ (7 * i))∧(0<i→0<v)∧(i:Int)<(numGet i u l).2.1:=by
  induction l with
  | nil=>intro i u _ _ _ h;simp [numGet] at h
  | cons c r ih =>
    intro i u hb hu hi h
    have hc:=hb c (List.mem_cons_self ..)
    rw[numGet] at h ⊢
    by_cases h1:i=9∧c > 1
    · rw[if_pos h1] at h;simp at h
    · rw[if_neg h1] at h ⊢
      have e2:2 ^ (7 * (i+1))=128 * 2 ^ (7 * i):=by rw[Nat.mul_add,Nat.pow_add,Nat.mul_comm]
      by_cases h2:c > 127
      · rw[if_pos h2] at h ⊢
        have hi9:i<9:=by omega
        have hu':u+(c % 128).toNat * 2 ^ (7 * i)<2 ^ (7 * (i+1)):=by
          rw[e2]
          have:(c % 128).toNat * 2 ^ (7 * i)≤127 * 2 ^ (7 * i):=Nat.mul_le_mul_right _ (by omega)
          omega
        obtain⟨v,hv1,hv2,hv3,hv4,hv5⟩:=ih (i+1) _ (Bytes.tail hb) hu' (by omega) h
        have hvp:=hv4 (by omega)
        have e3:u+(c % 128).toNat * 2 ^ (7 * i)+v * 2 ^ (7 * (i+1))=u+((c % 128).toNat+128 * v) * 2 ^ (7 * i):=by
          rw[e2,Nat.add_assoc,← Nat.mul_assoc,← Nat.add_mul,Nat.mul_comm v 128]
        refine⟨(c % 128).toNat+128 * v,?_,by rw[← e3];exact hv2,by rw[← e3];exact hv3,by omega,by omega⟩
        generalize numGet (i+1) (u+(c % 128).toNat * 2 ^ (7 * i)) r=q at *
        have ea:((((c % 128).toNat+128 * v) % 128+128:Nat):Int)=c:=by omega
        have eb:((c % 128).toNat+128 * v) / 128=v:=by omega
        rw[show q.2.1.toNat - i=(q.2.1.toNat - (i+1))+1 by omega,List.take_succ_cons,hv1,enc_step (u:=(c % 128).toNat+128 * v) (by omega),ea,eb]
      · rw[if_neg h2] at h ⊢
        by_cases h3:0<i∧c=0
        · rw[if_pos h3] at h;simp at h
        · rw[if_neg h3] at h ⊢
          refine⟨c.toNat,?_,?_,rfl,by omega,by simp only;omega⟩
          · simp only
            rw[show((i:Int)+1).toNat - i=1 by omega,enc_small (by omega)]
            simp
            omega
          · rcases Nat.lt_or_ge i 9 with h9 | h9
            · have h5:2 ^ (7 * (i+1))≤2 ^ (7 * 9):=Nat.pow_le_pow_right (by decide) (by omega)
              have h6:(2:Nat) ^ (7 * 9)=9223372036854775808:=by decide
              have:c.toNat * 2 ^ (7 * i)≤127 * 2 ^ (7 * i):=Nat.mul_le_mul_right _ (by omega)
              omega
            · have h10:i=9:=by omega
              subst h10
              have h6:(2:Nat) ^ (7 * 9)=9223372036854775808:=by decide
              rw[h6] at hu ⊢
              have:c.toNat≤1:=by omega
              omega
theorem numGet_canon0 {l:List Int} (hb:Bytes l) (h:(numGet 0 0 l).2.2=0):l.take (numGet 0 0 l).2.1.toNat=enc (zig (numGet 0 0 l).1):=by
  obtain⟨v,h1,_,h3,_,_⟩:=numGet_canon l 0 0 hb (by simp) (by omega) h
  simp only [Nat.sub_zero] at h1
  rw[h1,h3]
  simp [zig_zag]
/-- What was opened is a frame, just as it was sealed. -/
theorem openF_frame {l:List Int} (hb:Bytes l) (h:(openF l).2.2.2=0) :
    1≤(openF l).1∧(openF l).1≤255∧(openF l).2.1.length≤4000∧(openF l).2.2.1=((frameF (openF l).1 (openF l).2.1).length:Int)∧(frameF (openF l).1 (openF l).2.1).length≤l.length ∧
      l.take (frameF (openF l).1 (openF l).2.1).length=frameF (openF l).1 (openF l).2.1:=by
  cases l with
  | nil=>simp [openF] at h
  | cons c r =>
    have hc:=hb c (List.mem_cons_self ..)
    unfold openF at h ⊢
    simp only at h ⊢
    by_cases h0:c=0
    · rw[if_pos h0] at h;simp at h
    rw[if_neg h0] at h ⊢
    by_cases h1:(numGet 0 0 r).2.2=2∧(c :: r).length≤2
    · rw[if_pos h1] at h;simp at h
    rw[if_neg h1] at h ⊢
    by_cases h2:(numGet 0 0 r).2.2≠0∨(numGet 0 0 r).1<0∨(numGet 0 0 r).1 > 4000
    · rw[if_pos h2] at h;simp at h
    rw[if_neg h2] at h ⊢
    have hz:(numGet 0 0 r).2.2=0:=by omega
    have hok:=numGet_ok r (Bytes.tail hb) hz
    have hcan:=numGet_canon0 (Bytes.tail hb) hz
    generalize numGet 0 0 r=q at *
    obtain⟨n,m,e⟩:=q
    simp only at *
    obtain⟨a,rfl⟩:=Int.eq_ofNat_of_zero_le (show 0≤n by omega)
    obtain⟨k,rfl⟩:=Int.eq_ofNat_of_zero_le (show 0≤m by omega)
    simp only [Int.toNat_natCast] at *
    by_cases h3:((c :: r).length:Int)<1+(k:Int)+4+(a:Int)
    · rw[if_pos h3] at h;simp at h
    rw[if_neg h3] at h ⊢
    split at h
    · rename_i h4
      rw[if_pos h4]
      simp only
      have hk:k≤r.length:=by omega
      have hlen:(((c :: r).drop (1+k+4)).take a).length=a:=by rw[List.length_take,List.length_drop];simp only [List.length_cons] at h3 ⊢;omega
      have hkl:(enc (zig (a:Int))).length=k:=by rw[← hcan,List.length_take];omega
      have hhead:headF c a=(c :: r).take (1+k):=by unfold headF;rw[Nat.add_comm,List.take_succ_cons,hcan]
      have hfl:(frameF c (((c :: r).drop (1+k+4)).take a)).length=1+k+4+a:=by rw[frameF_length,hlen,hkl]
      refine⟨by omega,by omega,by omega,by rw[hfl];omega,by rw[hfl];omega,?_⟩
      rw[hfl]
      unfold frameF
      rw[hlen,hhead,h4]
      have p1:(c :: r).take (1+k+4+a)=(c :: r).take (1+k)++((c :: r).drop (1+k)).take (4+a):=by
        rw[Nat.add_assoc (1+k),List.take_add]
      have p2:((c :: r).drop (1+k)).take (4+a)=((c :: r).drop (1+k)).take 4++((c :: r).drop (1+k+4)).take a:=by
        rw[List.take_add,List.drop_drop]
      rw[p1,p2]
    · simp at h
/-- No other frame begins so. -/
theorem open_iff {l:List Int} (hb:Bytes l):(openF l).2.2.2=0∨((openF l)=(0,[],0,2)∨(openF l)=(0,[],0,3)):=by
  unfold openF
  cases l with
  | nil=>exact .inr (.inl rfl)
  | cons c r =>
    simp only
    split
    · exact .inr (.inr rfl)
    · split
      · exact .inr (.inl rfl)
      · split
        · exact .inr (.inr rfl)
        · split
          · exact .inr (.inl rfl)
          · split
            · exact .inl rfl
            · exact .inr (.inr rfl)
def flat (fs:List (Int×List Int)):List Int:=(fs.map fun f=>frameF f.1 f.2).flatten
theorem frameF_pos (kind:Int) (b:List Int):6≤(frameF kind b).length:=by
  rw[frameF_length]
  have:=enc_pos (zig (b.length:Int))
  omega




theorem strOf_bytesOf (s:ByteArray):strOfNums (bytesOf s)=s:=by
  apply ByteArray.ext
  apply Array.ext'
  rw[strOfNums_data,bytesOf,List.map_map]
  conv=>rhs;rw[← List.map_id s.data.toList]
  apply List.map_congr_left
  intro x _
  simp [Function.comp]
theorem bytesOf_extract (s:ByteArray) (a b:Nat):bytesOf (s.extract a b)=((bytesOf s).take b).drop a:=by
  rw[bytesOf,bytesOf,ByteArray.data_extract,Array.toList_extract,List.extract_eq_take_drop,← List.map_take,← List.map_drop,List.drop_take]
theorem getText_put (s:ByteArray) (hs:s.size≤1048576) (rest:List Int):getText (enc (zig (s.size:Int))++bytesOf s++rest)=(s,(((enc (zig (s.size:Int))).length+s.size:Nat):Int),0):=by
  unfold getText
  rw[List.append_assoc,get_enc0 (s.size:Int) (by omega) (by omega)]
  simp only [if_true]
  have hl:(enc (zig (s.size:Int))++(bytesOf s++rest)).length=(enc (zig (s.size:Int))).length+(s.size+rest.length):=by rw[List.length_append,List.length_append,bytesOf_length]
  rw[if_neg (by omega),if_neg (by rw[hl];omega),Int.toNat_natCast,Int.toNat_natCast,List.drop_left]
  have e:(bytesOf s++rest).take s.size=bytesOf s:=by rw[← bytesOf_length s];exact List.take_left
  rw[e,strOf_bytesOf]
  simp
/-- Numbers that are from one to another. -/
def inF (lo hi:Int):List Int→Bool
  | []=>true
  | n :: r=>if n<lo then false else if n > hi then false else inF lo hi r
def mayF (hard:Bool) (t v i u q:Int) (d:ByteArray):Bool :=
  if hard then inF 0 1099511627776 [t] && decide (v ≥ 0) && decide (v≤7) && (i == 0 && (u == 0 && (q == 0 && d.toList == [])))
  else(t == 0 && v == 0) && inF 1 1099511627776 [i,u] && decide (q ≥ 1) && decide (q≤3) && decide ((d.size:Int)≤2500)
def bodyF (hard:Bool) (t v i u q:Int) (d:ByteArray):List Int :=
  if hard then enc (zig t)++enc (zig v) else enc (zig i)++enc (zig u)++enc (zig q)++enc (zig (d.size:Int))++bytesOf d
def kindF (hard:Bool):Int:=if hard then 1 else 2
def encodeF (hard:Bool) (t v i u q:Int) (d:ByteArray):List Int:=if mayF hard t v i u q d=true then frameF (kindF hard) (bodyF hard t v i u q d) else[]
theorem may_hard {t v i u q:Int} {d:ByteArray} (h:mayF true t v i u q d=true):(0≤t∧t≤1099511627776)∧(0≤v∧v≤7)∧i=0∧u=0∧q=0∧d.toList = []:=by
  simp [mayF,inF] at h
  exact⟨by omega,by omega,h.2.1,h.2.2.1,h.2.2.2.1,h.2.2.2.2⟩
theorem may_entry {t v i u q:Int} {d:ByteArray} (h:mayF false t v i u q d=true):t=0∧v=0∧(1≤i∧i≤1099511627776)∧(1≤u∧u≤1099511627776)∧(1≤q∧q≤3)∧d.size≤2500:=by
  simp [mayF,inF] at h
  omega
theorem zig_i64 {n:Int} (h : -9223372036854775808≤n∧n≤9223372036854775807):(enc (zig n)).length≤10:=enc_len10 (zig_lt h.1 h.2)
theorem bodyF_bytes (hard:Bool) (t v i u q:Int) (d:ByteArray):Bytes (bodyF hard t v i u q d):=by
  have e (n:Int):Bytes (enc (zig n)):=enc_bytes _
  cases hard
  · exact((((e i).append (e u)).append (e q)).append (e _)).append (bytes_of d)
  · exact(e t).append (e v)
theorem bodyF_len {hard:Bool} {t v i u q:Int} {d:ByteArray} (h:mayF hard t v i u q d=true):(bodyF hard t v i u q d).length≤2540:=by
  cases hard with
  | true =>
    have:=may_hard h
    have h1:=zig_i64 (n:=t) (by omega)
    have h2:=zig_i64 (n:=v) (by omega)
    simp only [bodyF,if_true,List.length_append]
    omega
  | false =>
    have:=may_entry h
    have h1:=zig_i64 (n:=i) (by omega)
    have h2:=zig_i64 (n:=u) (by omega)
    have h3:=zig_i64 (n:=q) (by omega)
    have h4:=zig_i64 (n:=(d.size:Int)) (by omega)
    simp only [bodyF,Bool.false_eq_true,if_false,List.length_append,bytesOf_length]
    omega
theorem encodeF_len (hard:Bool) (t v i u q:Int) (d:ByteArray):(encodeF hard t v i u q d).length≤2550:=by
  unfold encodeF
  split
  · rename_i h
    have h1:=bodyF_len h
    have h2:=enc_len_small (n:=(bodyF hard t v i u q d).length) (by omega)
    rw[frameF_length]
    omega
  · simp
theorem encodeF_bytes (hard:Bool) (t v i u q:Int) (d:ByteArray):Bytes (encodeF hard t v i u q d):=by
  unfold encodeF
  split
  · exact frameF_bytes (by cases hard <;> simp [kindF]) (bodyF_bytes _ _ _ _ _ _ _)
  · exact Bytes.nil

/-- A number off what is left; a text. -/
def rdN (l:List Int) (bad:Bool):Int×List Int×Bool :=
  if (numGet 0 0 l).2.2=0 then((numGet 0 0 l).1,if bad=true then(l,true) else(l.drop (numGet 0 0 l).2.1.toNat,false)) else((numGet 0 0 l).1,l,true)
def rdT (l:List Int) (bad:Bool):ByteArray×List Int×Bool :=
  if (getText l).2.2=0 then((getText l).1,if bad=true then(l,true) else(l.drop (getText l).2.1.toNat,false)) else((getText l).1,l,true)
theorem rdN_enc {n:Int} (h : -9223372036854775808≤n∧n≤9223372036854775807) (rest:List Int):rdN (enc (zig n)++rest) false=(n,rest,false):=by
  unfold rdN
  rw[get_enc0 n h.1 h.2]
  simp
theorem rdT_put {s:ByteArray} (hs:s.size≤1048576) (rest:List Int):rdT (enc (zig (s.size:Int))++bytesOf s++rest) false=(s,rest,false):=by
  unfold rdT
  rw[getText_put s hs]
  have e:(enc (zig (s.size:Int))).length+s.size=(enc (zig (s.size:Int))++bytesOf s).length:=by rw[List.length_append,bytesOf_length]
  simp only [if_true,Bool.false_eq_true,if_false,Int.toNat_natCast]
  rw[e,List.drop_left]
theorem rdN_bytes {l:List Int} (h:Bytes l) (bad:Bool):Bytes (rdN l bad).2.1:=by
  unfold rdN
  split
  · cases bad
    · exact h.drop _
    · exact h
  · exact h
theorem rdN_len {l:List Int} (bad:Bool):(rdN l bad).2.1.length≤l.length:=by
  unfold rdN
  split
  · cases bad
    · simp only [Bool.false_eq_true,if_false,List.length_drop];omega
    · exact Nat.le_refl _
  · exact Nat.le_refl _
theorem rdT_bytes {l:List Int} (h:Bytes l) (bad:Bool):Bytes (rdT l bad).2.1:=by
  unfold rdT
  split
  · cases bad
    · exact h.drop _
    · exact h
  · exact h
theorem rdT_len {l:List Int} (bad:Bool):(rdT l bad).2.1.length≤l.length:=by
  unfold rdT
  split
  · cases bad
    · simp only [Bool.false_eq_true,if_false,List.length_drop];omega
    · exact Nat.le_refl _
  · exact Nat.le_refl _

/-- Reading a record. -/
def decBad : Bool×Int×Int×Int×Int×Int×ByteArray×Int×Int:=(false,0,0,0,0,0,⟨#[]⟩,0,3)
def decF (l:List Int):Bool×Int×Int×Int×Int×Int×ByteArray×Int×Int :=
  if (openF l).2.2.2=0 then
    (if (openF l).1=1 then
      (let s1:=rdN (openF l).2.1 false
       let s2:=rdN s1.2.1 s1.2.2
       if (!s2.2.2 && s2.2.1.isEmpty)=true then(if mayF true s1.1 s2.1 0 0 0 ⟨#[]⟩=true then(true,s1.1,s2.1,0,0,0,⟨#[]⟩,(openF l).2.2.1,0) else decBad) else decBad)
     else if (openF l).1=2 then
      (let s1:=rdN (openF l).2.1 false
       let s2:=rdN s1.2.1 s1.2.2
       let s3:=rdN s2.2.1 s2.2.2
       let s4:=rdT s3.2.1 s3.2.2
       if (!s4.2.2 && s4.2.1.isEmpty)=true then(if mayF false 0 0 s1.1 s2.1 s3.1 s4.1=true then(false,0,0,s1.1,s2.1,s3.1,s4.1,(openF l).2.2.1,0) else decBad) else decBad)
     else decBad)
  else(false,0,0,0,0,0,⟨#[]⟩,0,(openF l).2.2.2)

theorem toList_inj {a b:ByteArray} (h:a.toList=b.toList):a=b:=by
  apply ByteArray.ext
  apply Array.ext'
  rw[← ByteArray.toList_eq,← ByteArray.toList_eq,h]
theorem toList_nil {d:ByteArray} (h:d.toList = []):d=⟨#[]⟩:=by
  apply ByteArray.ext
  apply Array.ext'
  rw[← ByteArray.toList_eq,h]
/-- What may be is read again, whatever stands behind. -/
theorem dec_encode {hard:Bool} {t v i u q:Int} {d:ByteArray} (h:mayF hard t v i u q d=true) (rest:List Int) :
    decF (encodeF hard t v i u q d++rest)=(hard,t,v,i,u,q,d,((encodeF hard t v i u q d).length:Int),0):=by
  have hl:=bodyF_len h
  have hk:1≤kindF hard∧kindF hard≤255:=by cases hard <;> simp [kindF]
  unfold encodeF
  rw[if_pos h]
  unfold decF
  rw[open_frame hk (by omega)]
  simp only [if_true]
  cases hard with
  | true =>
    have hm:=may_hard h
    obtain⟨h1,h2,rfl,rfl,rfl,h3⟩:=hm
    have e3:=toList_nil h3
    subst e3
    simp only [kindF,if_true,bodyF]
    rw[rdN_enc (by omega)]
    have e:enc (zig v)=enc (zig v) ++ []:=by simp
    simp only
    rw[e,rdN_enc (by omega)]
    simp [h]
  | false =>
    have hm:=may_entry h
    obtain⟨rfl,rfl,h1,h2,h3,h4⟩:=hm
    simp only [kindF,Bool.false_eq_true,if_false,bodyF,show ¬((2:Int)=1) by decide,if_true]
    have e:enc (zig i)++enc (zig u)++enc (zig q)++enc (zig (d.size:Int))++bytesOf d=enc (zig i)++(enc (zig u)++(enc (zig q)++(enc (zig (d.size:Int))++bytesOf d ++ []))):=by simp
    rw[e,rdN_enc (by omega)]
    simp only
    rw[rdN_enc (by omega)]
    simp only
    rw[rdN_enc (by omega)]
    simp only
    rw[rdT_put (by omega)]
    simp [h]

/-! ## snapshots -/
def mayS (x y:Int) (c d:ByteArray):Bool:=inF 0 1099511627776 [x,y] && (decide ((c.size:Int)≤50) && decide ((d.size:Int)≤200000))
theorem mayS_says {x y:Int} {c d:ByteArray} (h:mayS x y c d=true):(0≤x∧x≤1099511627776)∧(0≤y∧y≤1099511627776)∧c.size≤50∧d.size≤200000:=by
  simp [mayS,inF] at h
  omega
theorem size_zero {s:ByteArray} (h:s.size=0):s=⟨#[]⟩:=by
  apply ByteArray.ext
  exact Array.eq_empty_of_size_eq_zero h
def snapHead (x y:Int) (c d:ByteArray):List Int:=enc (zig x)++(enc (zig y)++(enc (zig (c.size:Int))++bytesOf c++(enc (zig (d.size:Int)) ++ [])))
theorem snapHead_bytes (x y:Int) (c d:ByteArray):Bytes (snapHead x y c d):=by
  have e (n:Int):Bytes (enc (zig n)):=enc_bytes _
  exact(e x).append ((e y).append (((e _).append (bytes_of c)).append ((e _).append Bytes.nil)))
theorem snapHead_len {x y:Int} {c d:ByteArray} (hx : -9223372036854775808≤x∧x≤9223372036854775807) (hy : -9223372036854775808≤y∧y≤9223372036854775807) (hc:c.size≤50) (hd:d.size≤200000):(snapHead x y c d).length≤90:=by
  have z1:=zig_i64 hx
  have z2:=zig_i64 hy
  have z3:=zig_i64 (n:=(c.size:Int)) (by omega)
  have z4:=zig_i64 (n:=(d.size:Int)) (by omega)
  simp only [snapHead,List.length_append,bytesOf_length,List.length_nil]
  omega
def partsF (d:List Int):List Int:=if d = [] then[] else frameF 4 (d.take 3000)++partsF (d.drop 3000)
termination_by d.length
decreasing_by
  rename_i h
  have:=List.length_pos_iff.2 h
  rw[List.length_drop]
  omega
theorem partsF_nil : partsF [] = []:=by rw[partsF,if_pos rfl]
theorem partsF_step {d:List Int} (h:d ≠ []):partsF d=frameF 4 (d.take 3000)++partsF (d.drop 3000):=by rw[partsF,if_neg h]
theorem partsF_bytes (n:Nat):∀ d:List Int,d.length=n→Bytes d→Bytes (partsF d):=by
  induction n using Nat.strongRecOn with
  | _ n ih =>
    intro d hn hd
    by_cases h:d = []
    · subst h;rw[partsF_nil];exact Bytes.nil
    · have:=List.length_pos_iff.2 h
      rw[partsF_step h]
      exact(frameF_bytes (by decide) (hd.take _)).append (ih (d.drop 3000).length (by rw[List.length_drop];omega) _ rfl (hd.drop _))
theorem partsF_len (n:Nat):∀ d:List Int,d.length=n→(partsF d).length≤8 * d.length:=by
  induction n using Nat.strongRecOn with
  | _ n ih =>
    intro d hn
    by_cases h:d = []
    · subst h;rw[partsF_nil];simp
    · have hp:=List.length_pos_iff.2 h
      have h2:=ih (d.drop 3000).length (by rw[List.length_drop];omega) _ rfl
      have h1:=frameF_length 4 (d.take 3000)
      have hl1:(d.take 3000).length≤3000:=List.length_take_le ..
      have hz:=enc_len_small (n:=(d.take 3000).length) (by omega)
      have e1:(d.take 3000).length=min 3000 d.length:=List.length_take
      have e2:(d.drop 3000).length=d.length - 3000:=List.length_drop
      rw[partsF_step h,List.length_append,h1]
      omega
def snapF (x y:Int) (c d:ByteArray):List Int:=if mayS x y c d=true then frameF 3 (snapHead x y c d)++partsF (bytesOf d) else[]


end Go.AM.Spec
