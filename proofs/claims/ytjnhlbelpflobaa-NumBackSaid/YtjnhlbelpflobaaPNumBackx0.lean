-- Written for this claim by a program of this seat (a turned copy of the printer)
import Derived.Test.YtjnhlbelpflobaaProg
import Derived.Below
import Derived.Deep.Draws
import Derived.Deep.AppendLies
import Derived.Maps.AppendAt
import Derived.OwnWalk
import Derived.Laws.BytesArg
import Derived.Laws.MakeOwn
import Derived.Laws.OwnMore
import Derived.Deep.OwnRows
import Derived.Tactics
import Derived.Lib.ConvBytes
import Derived.Laws.Slices
import Derived.WalkKit
import Derived.KernelRfl
import Derived.RowKit3
import Derived.Deep.LoopGhost
import Derived.Deep.QuietTactic
import Derived.BigQuiet
import Derived.WideLaws
import Derived.Deep.DeepCutAuto
import Derived.Deep.CutBlock
import Derived.Deep.RegionHeld3
import Derived.Laws.Rows
import Derived.Lib.AppendStr
import Derived.ArgAppend
import Derived.Laws.IdiomCopy
import Derived.OrdersHeld
import Derived.Laws.BitsLemmas
import Derived.RowKit
import Derived.Test.YtjnhlbelpflobaaWWords
import Derived.Test.YtjnhlbelpflobaaWLast
import Derived.Test.YtjnhlbelpflobaaWTab
import Derived.Test.YtjnhlbelpflobaaWFour
import Derived.Test.YtjnhlbelpflobaaWQPut
import Derived.Test.YtjnhlbelpflobaaWApart
import Derived.Test.YtjnhlbelpflobaaWArr
import Derived.Test.YtjnhlbelpflobaaWZeros
import Derived.Test.YtjnhlbelpflobaaWFoot
import Derived.Test.YtjnhlbelpflobaaWKept
import Derived.Test.YtjnhlbelpflobaaWShare
import Derived.Test.YtjnhlbelpflobaaWN
import Derived.Test.YtjnhlbelpflobaaWFootNe
import Derived.Test.YtjnhlbelpflobaaWAt
import Derived.Test.YtjnhlbelpflobaaWEqStruct
import Derived.Test.YtjnhlbelpflobaaWRepsOne
import Derived.Test.YtjnhlbelpflobaaWInv
import Derived.Test.YtjnhlbelpflobaaWInvWords
import Derived.Test.YtjnhlbelpflobaaWGuard
import Derived.Test.YtjnhlbelpflobaaWNEv
import Derived.Test.YtjnhlbelpflobaaWMore
import Derived.Test.YtjnhlbelpflobaaWExtra
namespace Go.Proofs.Ytjnhlbelpflobaa.PNumBack
open Go.RowKit Go.Proofs.YtjnhlbelpflobaaW.PrintWords Go.Proofs.YtjnhlbelpflobaaW.PrintLast Go.Proofs.YtjnhlbelpflobaaW.PrintMore
attribute [local go_sem] max2_int min2_int max_two min_two max_three min_three max_four min_four   -- for this text's walks alone
set_option linter.unusedVariables false
set_option linter.unusedSimpArgs false



def errW : Option Int → Value
  | none => .nilIface
  | some c => .iface 0 (.int .i64 c)
theorem errW_none : errW none = .nilIface := rfl
theorem errW_some (c : Int) : errW (some c) = .iface 0 (.int .i64 c) := rfl

theorem info5 : (Try.prog.info? 5).map (fun i => (i.zero, i.size, i.bytes)) = some (some (.int .u8 0), 1, 1) := by kernel_rfl
-- the values' own types

end Go.Proofs.Ytjnhlbelpflobaa.PNumBack
