/- Part of a machine of its own for this claim: the program's code over memory without draws. -/
import Derived.Test.YtodcgppcmahbkabSAmPDisk2
set_option linter.unusedVariables false
set_option linter.unusedSimpArgs false
set_option linter.unnecessarySimpa false
/- Files that crash: one file, two files. -/
set_option linter.unusedSimpArgs false
namespace Go.AM.Spec
open Go
variable {F G : ByteArray} {a b : List Int} {s s' n : Int} {t t' : Bool}
theorem ba_self (F:ByteArray):(F == F)=true:=(MapKept.bytes_beq F F).2 rfl
theorem one_names : namesF [(F,⟨a,s,t⟩)] = [F]:=by
 have h:=names_perm [(F,(⟨a,s,t⟩:FileS))]
 simpa using h.eq_singleton
theorem one_crash (h:0<keepN ⟨a,s,t⟩ n∨t=true):crashF [(F,⟨a,s,t⟩)] n = [(F,⟨a.take (keepN ⟨a,s,t⟩ n).toNat,keepN ⟨a,s,t⟩ n,true⟩)]:=by
 unfold crashF
 rw[one_names,List.filterMap_cons,crash1_yes (f:=⟨a,s,t⟩) (by simp [fget,ba_self]) h]
 rfl
/-- What lasts whole: a file that is as it was swapped in. -/
theorem keep_whole : keepN ⟨a,a.length,t⟩ n=a.length:=by
 unfold keepN
 split
 ·
  simp only [Int.sub_self,Int.zero_add]
  rw[Int.tmod_one]
  omega
 · rfl
theorem one_crash_whole : crashF [(F,⟨a,a.length,true⟩)] n = [(F,⟨a,a.length,true⟩)]:=by
 rw[one_crash (.inr rfl),keep_whole]
 simp
end Go.AM.Spec
