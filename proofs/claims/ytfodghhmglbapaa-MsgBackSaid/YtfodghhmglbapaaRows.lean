/-
  No cell of these rows narrows 'for every input' (looked for: loops, veiled, ifaces, maps, wideKeys, modest, calm, conditions, laid).
  DERIVED. THE GIVEN ROWS OF THIS SEAT. 6 by the template 'for every input the law returns true; each argument reads behind the call as it read before'; 0 by the template 'total and deterministic' (their statements: YtfodghhmglbapaaTotals.lean).
  GIVEN WITH THE SEED: the statements are not yours to turn. If you find one false, say at which input.
  Laid BY PROGRAM, IN A SANDBOX (cutbox-rows.mjs): the forced cells as the released guide's own fill.sh prints them over the translation cf3a3614c324806e… (all of the seat's roots in one cut). By AI agents, Wed Nov 11 2026. No macro, syntax, notation, axiom, sorry.
-/
import Derived.Test.YtfodghhmglbapaaChecked
import GoSem.Claim
import GoSem.ClaimJoined
import GoSem.ClaimMapViews
import Derived.JoinedTies
import Derived.KernelRfl
namespace Go.Proofs.Ytfodghhmglbapaa
/- THE CELL 'sum', in the pinned program and in every row, IS THE sha256 OF THE DUMP (.gsa) THAT YtfodghhmglbapaaProg.lean LOADS. Nothing in Lean hashes anything: it is a label: what it is worth is what the hold of that sum in a sandbox is worth. -/
noncomputable def Try.pinned : Pinned := { name := "ytfodghhmglbapaa", sum := "cf3a3614c324806e1c898c1a5de86f1ef297e6bd1261f61ae64df3688934242b", checked := Try.checked }
namespace Rows
def none {H : Type} : Left H := { results := [], args := [] }

/-- 'donatuslaw25.MsgBack': WHATEVER THE INPUT: true; the input reads as it did. -/
def msgBackSpec : ChangeSpec := { name := "msgBack", fn := fun _ => fun
  | [d1, d2, d3, d4, d5] => { results := [.lit (.bool true)], args := [d1, d2, d3, d4, d5] }
  | _ => none }
def msgBackRow : OpenClaim := { program := "ytfodghhmglbapaa", sum := "cf3a3614c324806e1c898c1a5de86f1ef297e6bd1261f61ae64df3688934242b", func := "donatus/donatuslaw25.MsgBack", spec := "msgBack", apart := false }
def MsgBackSaid : Prop := msgBackRow.holds Try.pinned (OpenSpec.ofChange msgBackSpec)

/-- ITS FALSE NEIGHBOUR: 'it returns false'. Refute it at one input. -/
def msgBackWrong : ChangeSpec := { name := "msgBack", fn := fun _ => fun
  | [d1, d2, d3, d4, d5] => { results := [.lit (.bool false)], args := [d1, d2, d3, d4, d5] }
  | _ => none }
def MsgBackWrongFalsely : Prop := msgBackRow.holds Try.pinned (OpenSpec.ofChange msgBackWrong)

/-- 'donatuslaw25.MsgAny': WHATEVER THE INPUT: true; the input reads as it did. -/
def msgAnySpec : ChangeSpec := { name := "msgAny", fn := fun _ => fun
  | [d] => { results := [.lit (.bool true)], args := [d] }
  | _ => none }
def msgAnyRow : OpenClaim := { program := "ytfodghhmglbapaa", sum := "cf3a3614c324806e1c898c1a5de86f1ef297e6bd1261f61ae64df3688934242b", func := "donatus/donatuslaw25.MsgAny", spec := "msgAny", apart := false }
def MsgAnySaid : Prop := msgAnyRow.holds Try.pinned (OpenSpec.ofChange msgAnySpec)

/-- ITS FALSE NEIGHBOUR: 'it returns false'. Refute it at one input. -/
def msgAnyWrong : ChangeSpec := { name := "msgAny", fn := fun _ => fun
  | [d] => { results := [.lit (.bool false)], args := [d] }
  | _ => none }
def MsgAnyWrongFalsely : Prop := msgAnyRow.holds Try.pinned (OpenSpec.ofChange msgAnyWrong)

/-- 'donatuslaw25.MsgTwins': WHATEVER THE INPUT: true; the input reads as it did. -/
def msgTwinsSpec : ChangeSpec := { name := "msgTwins", fn := fun _ => fun
  | [d1, d2] => { results := [.lit (.bool true)], args := [d1, d2] }
  | _ => none }
def msgTwinsRow : OpenClaim := { program := "ytfodghhmglbapaa", sum := "cf3a3614c324806e1c898c1a5de86f1ef297e6bd1261f61ae64df3688934242b", func := "donatus/donatuslaw25.MsgTwins", spec := "msgTwins", apart := false }
def MsgTwinsSaid : Prop := msgTwinsRow.holds Try.pinned (OpenSpec.ofChange msgTwinsSpec)

/-- ITS FALSE NEIGHBOUR: 'it returns false'. Refute it at one input. -/
def msgTwinsWrong : ChangeSpec := { name := "msgTwins", fn := fun _ => fun
  | [d1, d2] => { results := [.lit (.bool false)], args := [d1, d2] }
  | _ => none }
def MsgTwinsWrongFalsely : Prop := msgTwinsRow.holds Try.pinned (OpenSpec.ofChange msgTwinsWrong)

/-- 'donatuslaw25.MsgBig': WHATEVER THE INPUT: true; the input reads as it did. -/
def msgBigSpec : ChangeSpec := { name := "msgBig", fn := fun _ => fun
  | [d1, d2, d3] => { results := [.lit (.bool true)], args := [d1, d2, d3] }
  | _ => none }
def msgBigRow : OpenClaim := { program := "ytfodghhmglbapaa", sum := "cf3a3614c324806e1c898c1a5de86f1ef297e6bd1261f61ae64df3688934242b", func := "donatus/donatuslaw25.MsgBig", spec := "msgBig", apart := false }
def MsgBigSaid : Prop := msgBigRow.holds Try.pinned (OpenSpec.ofChange msgBigSpec)

/-- ITS FALSE NEIGHBOUR: 'it returns false'. Refute it at one input. -/
def msgBigWrong : ChangeSpec := { name := "msgBig", fn := fun _ => fun
  | [d1, d2, d3] => { results := [.lit (.bool false)], args := [d1, d2, d3] }
  | _ => none }
def MsgBigWrongFalsely : Prop := msgBigRow.holds Try.pinned (OpenSpec.ofChange msgBigWrong)

/-- 'donatuslaw25.NetFull': WHATEVER THE INPUT: true; the input reads as it did. -/
def netFullSpec : ChangeSpec := { name := "netFull", fn := fun _ => fun
  | [d] => { results := [.lit (.bool true)], args := [d] }
  | _ => none }
def netFullRow : OpenClaim := { program := "ytfodghhmglbapaa", sum := "cf3a3614c324806e1c898c1a5de86f1ef297e6bd1261f61ae64df3688934242b", func := "donatus/donatuslaw25.NetFull", spec := "netFull", apart := false }
def NetFullSaid : Prop := netFullRow.holds Try.pinned (OpenSpec.ofChange netFullSpec)

/-- ITS FALSE NEIGHBOUR: 'it returns false'. Refute it at one input. -/
def netFullWrong : ChangeSpec := { name := "netFull", fn := fun _ => fun
  | [d] => { results := [.lit (.bool false)], args := [d] }
  | _ => none }
def NetFullWrongFalsely : Prop := netFullRow.holds Try.pinned (OpenSpec.ofChange netFullWrong)

/-- 'donatuslaw25.NetOwn': WHATEVER THE INPUT: true; the input reads as it did. -/
def netOwnSpec : ChangeSpec := { name := "netOwn", fn := fun _ => fun
  | [d] => { results := [.lit (.bool true)], args := [d] }
  | _ => none }
def netOwnRow : OpenClaim := { program := "ytfodghhmglbapaa", sum := "cf3a3614c324806e1c898c1a5de86f1ef297e6bd1261f61ae64df3688934242b", func := "donatus/donatuslaw25.NetOwn", spec := "netOwn", apart := false }
def NetOwnSaid : Prop := netOwnRow.holds Try.pinned (OpenSpec.ofChange netOwnSpec)

/-- ITS FALSE NEIGHBOUR: 'it returns false'. Refute it at one input. -/
def netOwnWrong : ChangeSpec := { name := "netOwn", fn := fun _ => fun
  | [d] => { results := [.lit (.bool false)], args := [d] }
  | _ => none }
def NetOwnWrongFalsely : Prop := netOwnRow.holds Try.pinned (OpenSpec.ofChange netOwnWrong)

/- THE SECOND FORM. 'bulk': how many values and letters a reading holds, each counted each time it is reached (what is shared counts as often as it is met; a slice's spare places count too). A statement '..UptoSaid' is the law's where the arguments, and the package variables that the reading takes, are together of bulk at most 1048576: NARROWER than '..Said'. Prove '..Said' where nothing that the law and all that it calls make is longer than what came in: it says more and counts as full. Else prove '..UptoSaid'. A law counts once. -/
mutual
def uptoBulk {H : Type} : DataW H → Nat
  | .lit (.string bytes) => bytes.length + 1
  | .lit _ => 1
  | .nil => 1
  | .ptr d => uptoBulk d + 1
  | .slice elems spare => uptoBulkAll elems + uptoBulkAll spare + 1
  | .agg parts => uptoBulkAll parts + 1
  | .iface _ d => uptoBulk d + 1
  | .map entries => uptoBulkEntries entries + 1
  | .held _ => 1
def uptoBulkAll {H : Type} : List (DataW H) → Nat
  | [] => 0
  | d :: r => uptoBulk d + uptoBulkAll r
def uptoBulkEntries {H : Type} : List (Lit × DataW H) → Nat
  | [] => 0
  | x :: r => uptoBulkEntry x + uptoBulkEntries r
def uptoBulkEntry {H : Type} : Lit × DataW H → Nat
  | (.string bytes, d) => bytes.length + uptoBulk d + 1
  | (_, d) => uptoBulk d + 1
 end
def uptoSmall : (H : Type) → List (DataW H) → Bool := fun _ ds => decide (uptoBulkAll ds ≤ 1048576)
def OpenSpec.upto (s : _root_.Go.ChangeSpec) : _root_.Go.OpenSpec := { _root_.Go.OpenSpec.ofChange s with cond := some uptoSmall }

/-- 'donatuslaw25.MsgBack', WHERE WHAT IT READS IS OF BULK AT MOST 1048576: true; the input reads as it did. -/
def msgBackUptoRow : OpenClaim := { program := "ytfodghhmglbapaa", sum := "cf3a3614c324806e1c898c1a5de86f1ef297e6bd1261f61ae64df3688934242b", func := "donatus/donatuslaw25.MsgBack", spec := "msgBack", apart := false, narrowed := true }
def MsgBackUptoSaid : Prop := msgBackUptoRow.holds Try.pinned (OpenSpec.upto msgBackSpec)

/-- 'donatuslaw25.MsgAny', WHERE WHAT IT READS IS OF BULK AT MOST 1048576: true; the input reads as it did. -/
def msgAnyUptoRow : OpenClaim := { program := "ytfodghhmglbapaa", sum := "cf3a3614c324806e1c898c1a5de86f1ef297e6bd1261f61ae64df3688934242b", func := "donatus/donatuslaw25.MsgAny", spec := "msgAny", apart := false, narrowed := true }
def MsgAnyUptoSaid : Prop := msgAnyUptoRow.holds Try.pinned (OpenSpec.upto msgAnySpec)

/-- 'donatuslaw25.MsgTwins', WHERE WHAT IT READS IS OF BULK AT MOST 1048576: true; the input reads as it did. -/
def msgTwinsUptoRow : OpenClaim := { program := "ytfodghhmglbapaa", sum := "cf3a3614c324806e1c898c1a5de86f1ef297e6bd1261f61ae64df3688934242b", func := "donatus/donatuslaw25.MsgTwins", spec := "msgTwins", apart := false, narrowed := true }
def MsgTwinsUptoSaid : Prop := msgTwinsUptoRow.holds Try.pinned (OpenSpec.upto msgTwinsSpec)

/-- 'donatuslaw25.MsgBig', WHERE WHAT IT READS IS OF BULK AT MOST 1048576: true; the input reads as it did. -/
def msgBigUptoRow : OpenClaim := { program := "ytfodghhmglbapaa", sum := "cf3a3614c324806e1c898c1a5de86f1ef297e6bd1261f61ae64df3688934242b", func := "donatus/donatuslaw25.MsgBig", spec := "msgBig", apart := false, narrowed := true }
def MsgBigUptoSaid : Prop := msgBigUptoRow.holds Try.pinned (OpenSpec.upto msgBigSpec)

/-- 'donatuslaw25.NetFull', WHERE WHAT IT READS IS OF BULK AT MOST 1048576: true; the input reads as it did. -/
def netFullUptoRow : OpenClaim := { program := "ytfodghhmglbapaa", sum := "cf3a3614c324806e1c898c1a5de86f1ef297e6bd1261f61ae64df3688934242b", func := "donatus/donatuslaw25.NetFull", spec := "netFull", apart := false, narrowed := true }
def NetFullUptoSaid : Prop := netFullUptoRow.holds Try.pinned (OpenSpec.upto netFullSpec)

/-- 'donatuslaw25.NetOwn', WHERE WHAT IT READS IS OF BULK AT MOST 1048576: true; the input reads as it did. -/
def netOwnUptoRow : OpenClaim := { program := "ytfodghhmglbapaa", sum := "cf3a3614c324806e1c898c1a5de86f1ef297e6bd1261f61ae64df3688934242b", func := "donatus/donatuslaw25.NetOwn", spec := "netOwn", apart := false, narrowed := true }
def NetOwnUptoSaid : Prop := netOwnUptoRow.holds Try.pinned (OpenSpec.upto netOwnSpec)

end Rows
end Go.Proofs.Ytfodghhmglbapaa
