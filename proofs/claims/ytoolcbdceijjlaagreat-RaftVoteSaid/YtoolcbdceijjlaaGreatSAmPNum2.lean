/- Part of a machine of its own for this claim: the program's code over memory without draws. -/
import Derived.Test.YtoolcbdceijjlaaGreatSAmPNum
set_option linter.unusedVariables false
set_option linter.unusedSimpArgs false
set_option linter.unnecessarySimpa false
/- Frames: what the code's pieces come to. -/
set_option linter.unusedSimpArgs false
namespace Go.AM.Spec
open Go Go.RowKit
theorem seal_is {kind : Int} {b : List Int} (hk : 0 ≤ kind ∧ kind < 256) : (([kind] ++ enc (zig (b.length : Int))) ++ four (((crcMore (((crcMore 0 ([kind] ++ enc (zig (b.length : Int))) : Nat) : Int)).toNat b : Nat) : Int)).toNat) ++ b = frameF kind b := by
  rw [Int.toNat_natCast, Int.toNat_natCast, show [kind] ++ enc (zig (b.length : Int)) = headF kind b.length from rfl, crcMore_append 0 _ _ (by decide) (headF_bytes (n := b.length) hk)]
  unfold frameF
  simp
end Go.AM.Spec
