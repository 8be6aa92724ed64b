/-
  No cell of these rows narrows 'for every input' (looked for: loops, veiled, ifaces, maps, wideKeys, modest, calm, conditions, laid).
  DERIVED. THE GIVEN ROWS OF THIS SEAT. 6 by the template 'for every input the law returns true; each argument reads behind the call as it read before'; 0 by the template 'total and deterministic' (their statements: YtoamlagpnnmnhabTotals.lean).
  GIVEN WITH THE SEED: the statements are not yours to turn. If you find one false, say at which input.
  Laid BY PROGRAM, IN A SANDBOX (cutbox-rows.mjs): the forced cells as the released guide's own fill.sh prints them over the translation 97167ca2cca9cd88… (all of the seat's roots in one cut). By AI agents, Wed Nov 11 2026. No macro, syntax, notation, axiom, sorry.
-/
import Derived.Test.YtoamlagpnnmnhabChecked
import GoSem.Claim
import GoSem.ClaimJoined
import GoSem.ClaimMapViews
import Derived.JoinedTies
import Derived.KernelRfl
namespace Go.Proofs.Ytoamlagpnnmnhab
/- THE CELL 'sum', in the pinned program and in every row, IS THE sha256 OF THE DUMP (.gsa) THAT YtoamlagpnnmnhabProg.lean LOADS. Nothing in Lean hashes anything: it is a label: what it is worth is what the hold of that sum in a sandbox is worth. -/
noncomputable def Try.pinned : Pinned := { name := "ytoamlagpnnmnhab", sum := "97167ca2cca9cd886e0524add2ea7e712b0b9b92241b6ec6ab1ccd4006654136", checked := Try.checked }
namespace Rows
def none {H : Type} : Left H := { results := [], args := [] }

/-- 'donatuslaw18.WalRecord': WHATEVER THE INPUT: true; the input reads as it did. -/
def walRecordSpec : ChangeSpec := { name := "walRecord", fn := fun _ => fun
  | [d1, d2] => { results := [.lit (.bool true)], args := [d1, d2] }
  | _ => none }
def walRecordRow : OpenClaim := { program := "ytoamlagpnnmnhab", sum := "97167ca2cca9cd886e0524add2ea7e712b0b9b92241b6ec6ab1ccd4006654136", func := "donatus/donatuslaw18.WalRecord", spec := "walRecord", apart := false }
def WalRecordSaid : Prop := walRecordRow.holds Try.pinned (OpenSpec.ofChange walRecordSpec)

/-- ITS FALSE NEIGHBOUR: 'it returns false'. Refute it at one input. -/
def walRecordWrong : ChangeSpec := { name := "walRecord", fn := fun _ => fun
  | [d1, d2] => { results := [.lit (.bool false)], args := [d1, d2] }
  | _ => none }
def WalRecordWrongFalsely : Prop := walRecordRow.holds Try.pinned (OpenSpec.ofChange walRecordWrong)

/-- 'donatuslaw18.WalScan': WHATEVER THE INPUT: true; the input reads as it did. -/
def walScanSpec : ChangeSpec := { name := "walScan", fn := fun _ => fun
  | [d1, d2, d3, d4, d5] => { results := [.lit (.bool true)], args := [d1, d2, d3, d4, d5] }
  | _ => none }
def walScanRow : OpenClaim := { program := "ytoamlagpnnmnhab", sum := "97167ca2cca9cd886e0524add2ea7e712b0b9b92241b6ec6ab1ccd4006654136", func := "donatus/donatuslaw18.WalScan", spec := "walScan", apart := false }
def WalScanSaid : Prop := walScanRow.holds Try.pinned (OpenSpec.ofChange walScanSpec)

/-- ITS FALSE NEIGHBOUR: 'it returns false'. Refute it at one input. -/
def walScanWrong : ChangeSpec := { name := "walScan", fn := fun _ => fun
  | [d1, d2, d3, d4, d5] => { results := [.lit (.bool false)], args := [d1, d2, d3, d4, d5] }
  | _ => none }
def WalScanWrongFalsely : Prop := walScanRow.holds Try.pinned (OpenSpec.ofChange walScanWrong)

/-- 'donatuslaw18.WalAny': WHATEVER THE INPUT: true; the input reads as it did. -/
def walAnySpec : ChangeSpec := { name := "walAny", fn := fun _ => fun
  | [d] => { results := [.lit (.bool true)], args := [d] }
  | _ => none }
def walAnyRow : OpenClaim := { program := "ytoamlagpnnmnhab", sum := "97167ca2cca9cd886e0524add2ea7e712b0b9b92241b6ec6ab1ccd4006654136", func := "donatus/donatuslaw18.WalAny", spec := "walAny", apart := false }
def WalAnySaid : Prop := walAnyRow.holds Try.pinned (OpenSpec.ofChange walAnySpec)

/-- ITS FALSE NEIGHBOUR: 'it returns false'. Refute it at one input. -/
def walAnyWrong : ChangeSpec := { name := "walAny", fn := fun _ => fun
  | [d] => { results := [.lit (.bool false)], args := [d] }
  | _ => none }
def WalAnyWrongFalsely : Prop := walAnyRow.holds Try.pinned (OpenSpec.ofChange walAnyWrong)

/-- 'donatuslaw18.WalTorn': WHATEVER THE INPUT: true; the input reads as it did. -/
def walTornSpec : ChangeSpec := { name := "walTorn", fn := fun _ => fun
  | [d1, d2] => { results := [.lit (.bool true)], args := [d1, d2] }
  | _ => none }
def walTornRow : OpenClaim := { program := "ytoamlagpnnmnhab", sum := "97167ca2cca9cd886e0524add2ea7e712b0b9b92241b6ec6ab1ccd4006654136", func := "donatus/donatuslaw18.WalTorn", spec := "walTorn", apart := false }
def WalTornSaid : Prop := walTornRow.holds Try.pinned (OpenSpec.ofChange walTornSpec)

/-- ITS FALSE NEIGHBOUR: 'it returns false'. Refute it at one input. -/
def walTornWrong : ChangeSpec := { name := "walTorn", fn := fun _ => fun
  | [d1, d2] => { results := [.lit (.bool false)], args := [d1, d2] }
  | _ => none }
def WalTornWrongFalsely : Prop := walTornRow.holds Try.pinned (OpenSpec.ofChange walTornWrong)

/-- 'donatuslaw18.WalEnds': WHATEVER THE INPUT: true; the input reads as it did. -/
def walEndsSpec : ChangeSpec := { name := "walEnds", fn := fun _ => fun
  | [d1, d2, d3, d4] => { results := [.lit (.bool true)], args := [d1, d2, d3, d4] }
  | _ => none }
def walEndsRow : OpenClaim := { program := "ytoamlagpnnmnhab", sum := "97167ca2cca9cd886e0524add2ea7e712b0b9b92241b6ec6ab1ccd4006654136", func := "donatus/donatuslaw18.WalEnds", spec := "walEnds", unfollowed := true, recurses := true, apart := false }
def WalEndsSaid : Prop := walEndsRow.holds Try.pinned (OpenSpec.ofChange walEndsSpec)

/-- ITS FALSE NEIGHBOUR: 'it returns false'. Refute it at one input. -/
def walEndsWrong : ChangeSpec := { name := "walEnds", fn := fun _ => fun
  | [d1, d2, d3, d4] => { results := [.lit (.bool false)], args := [d1, d2, d3, d4] }
  | _ => none }
def WalEndsWrongFalsely : Prop := walEndsRow.holds Try.pinned (OpenSpec.ofChange walEndsWrong)

/-- 'donatuslaw18.WalBig': WHATEVER THE INPUT: true; the input reads as it did. -/
def walBigSpec : ChangeSpec := { name := "walBig", fn := fun _ => fun
  | [d] => { results := [.lit (.bool true)], args := [d] }
  | _ => none }
def walBigRow : OpenClaim := { program := "ytoamlagpnnmnhab", sum := "97167ca2cca9cd886e0524add2ea7e712b0b9b92241b6ec6ab1ccd4006654136", func := "donatus/donatuslaw18.WalBig", spec := "walBig", apart := false }
def WalBigSaid : Prop := walBigRow.holds Try.pinned (OpenSpec.ofChange walBigSpec)

/-- ITS FALSE NEIGHBOUR: 'it returns false'. Refute it at one input. -/
def walBigWrong : ChangeSpec := { name := "walBig", fn := fun _ => fun
  | [d] => { results := [.lit (.bool false)], args := [d] }
  | _ => none }
def WalBigWrongFalsely : Prop := walBigRow.holds Try.pinned (OpenSpec.ofChange walBigWrong)

/- THE SECOND FORM. 'bulk': how many values and letters a reading holds, each counted each time it is reached (what is shared counts as often as it is met; a slice's spare places count too). A statement '..UptoSaid' is the law's where the arguments, and the package variables that the reading takes, are together of bulk at most 1048576: NARROWER than '..Said'. Prove '..Said' where nothing that the law and all that it calls make is longer than what came in: it says more and counts as full. Else prove '..UptoSaid'. A law counts once. -/
mutual
def uptoBulk {H : Type} : DataW H → Nat
  | .lit (.string bytes) => bytes.length + 1
  | .lit _ => 1
  | .nil => 1
  | .ptr d => uptoBulk d + 1
  | .slice elems spare => uptoBulkAll elems + uptoBulkAll spare + 1
  | .agg parts => uptoBulkAll parts + 1
  | .iface _ d => uptoBulk d + 1
  | .map entries => uptoBulkEntries entries + 1
  | .held _ => 1
def uptoBulkAll {H : Type} : List (DataW H) → Nat
  | [] => 0
  | d :: r => uptoBulk d + uptoBulkAll r
def uptoBulkEntries {H : Type} : List (Lit × DataW H) → Nat
  | [] => 0
  | x :: r => uptoBulkEntry x + uptoBulkEntries r
def uptoBulkEntry {H : Type} : Lit × DataW H → Nat
  | (.string bytes, d) => bytes.length + uptoBulk d + 1
  | (_, d) => uptoBulk d + 1
 end
def uptoSmall : (H : Type) → List (DataW H) → Bool := fun _ ds => decide (uptoBulkAll ds ≤ 1048576)
def OpenSpec.upto (s : _root_.Go.ChangeSpec) : _root_.Go.OpenSpec := { _root_.Go.OpenSpec.ofChange s with cond := some uptoSmall }

/-- 'donatuslaw18.WalRecord', WHERE WHAT IT READS IS OF BULK AT MOST 1048576: true; the input reads as it did. -/
def walRecordUptoRow : OpenClaim := { program := "ytoamlagpnnmnhab", sum := "97167ca2cca9cd886e0524add2ea7e712b0b9b92241b6ec6ab1ccd4006654136", func := "donatus/donatuslaw18.WalRecord", spec := "walRecord", apart := false, narrowed := true }
def WalRecordUptoSaid : Prop := walRecordUptoRow.holds Try.pinned (OpenSpec.upto walRecordSpec)

/-- 'donatuslaw18.WalScan', WHERE WHAT IT READS IS OF BULK AT MOST 1048576: true; the input reads as it did. -/
def walScanUptoRow : OpenClaim := { program := "ytoamlagpnnmnhab", sum := "97167ca2cca9cd886e0524add2ea7e712b0b9b92241b6ec6ab1ccd4006654136", func := "donatus/donatuslaw18.WalScan", spec := "walScan", apart := false, narrowed := true }
def WalScanUptoSaid : Prop := walScanUptoRow.holds Try.pinned (OpenSpec.upto walScanSpec)

/-- 'donatuslaw18.WalAny', WHERE WHAT IT READS IS OF BULK AT MOST 1048576: true; the input reads as it did. -/
def walAnyUptoRow : OpenClaim := { program := "ytoamlagpnnmnhab", sum := "97167ca2cca9cd886e0524add2ea7e712b0b9b92241b6ec6ab1ccd4006654136", func := "donatus/donatuslaw18.WalAny", spec := "walAny", apart := false, narrowed := true }
def WalAnyUptoSaid : Prop := walAnyUptoRow.holds Try.pinned (OpenSpec.upto walAnySpec)

/-- 'donatuslaw18.WalTorn', WHERE WHAT IT READS IS OF BULK AT MOST 1048576: true; the input reads as it did. -/
def walTornUptoRow : OpenClaim := { program := "ytoamlagpnnmnhab", sum := "97167ca2cca9cd886e0524add2ea7e712b0b9b92241b6ec6ab1ccd4006654136", func := "donatus/donatuslaw18.WalTorn", spec := "walTorn", apart := false, narrowed := true }
def WalTornUptoSaid : Prop := walTornUptoRow.holds Try.pinned (OpenSpec.upto walTornSpec)

/-- 'donatuslaw18.WalEnds', WHERE WHAT IT READS IS OF BULK AT MOST 1048576: true; the input reads as it did. -/
def walEndsUptoRow : OpenClaim := { program := "ytoamlagpnnmnhab", sum := "97167ca2cca9cd886e0524add2ea7e712b0b9b92241b6ec6ab1ccd4006654136", func := "donatus/donatuslaw18.WalEnds", spec := "walEnds", unfollowed := true, recurses := true, apart := false, narrowed := true }
def WalEndsUptoSaid : Prop := walEndsUptoRow.holds Try.pinned (OpenSpec.upto walEndsSpec)

/-- 'donatuslaw18.WalBig', WHERE WHAT IT READS IS OF BULK AT MOST 1048576: true; the input reads as it did. -/
def walBigUptoRow : OpenClaim := { program := "ytoamlagpnnmnhab", sum := "97167ca2cca9cd886e0524add2ea7e712b0b9b92241b6ec6ab1ccd4006654136", func := "donatus/donatuslaw18.WalBig", spec := "walBig", apart := false, narrowed := true }
def WalBigUptoSaid : Prop := walBigUptoRow.holds Try.pinned (OpenSpec.upto walBigSpec)

end Rows
end Go.Proofs.Ytoamlagpnnmnhab
