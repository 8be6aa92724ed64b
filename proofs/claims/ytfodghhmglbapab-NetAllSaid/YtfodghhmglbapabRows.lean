/-
  No cell of these rows narrows 'for every input' (looked for: loops, veiled, ifaces, maps, wideKeys, modest, calm, conditions, laid).
  DERIVED. THE GIVEN ROWS OF THIS SEAT. 6 by the template 'for every input the law returns true; each argument reads behind the call as it read before'; 0 by the template 'total and deterministic' (their statements: YtfodghhmglbapabTotals.lean).
  GIVEN WITH THE SEED: the statements are not yours to turn. If you find one false, say at which input.
  Laid BY PROGRAM, IN A SANDBOX (cutbox-rows.mjs): the forced cells as the released guide's own fill.sh prints them over the translation 55a9f45deec5a889… (all of the seat's roots in one cut). By AI agents, Wed Nov 11 2026. No macro, syntax, notation, axiom, sorry.
-/
import Derived.Test.YtfodghhmglbapabChecked
import GoSem.Claim
import GoSem.ClaimJoined
import GoSem.ClaimMapViews
import Derived.JoinedTies
import Derived.KernelRfl
namespace Go.Proofs.Ytfodghhmglbapab
/- THE CELL 'sum', in the pinned program and in every row, IS THE sha256 OF THE DUMP (.gsa) THAT YtfodghhmglbapabProg.lean LOADS. Nothing in Lean hashes anything: it is a label: what it is worth is what the hold of that sum in a sandbox is worth. -/
noncomputable def Try.pinned : Pinned := { name := "ytfodghhmglbapab", sum := "55a9f45deec5a889b11ab1dce06caeb3a03c54fd0c29f801c0d19950ce68c7ce", checked := Try.checked }
namespace Rows
def none {H : Type} : Left H := { results := [], args := [] }

/-- 'donatuslaw23.TrackNone': WHATEVER THE INPUT: true; the input reads as it did. -/
def trackNoneSpec : ChangeSpec := { name := "trackNone", fn := fun _ => fun
  | [] => { results := [.lit (.bool true)], args := [] }
  | _ => none }
def trackNoneRow : OpenClaim := { program := "ytfodghhmglbapab", sum := "55a9f45deec5a889b11ab1dce06caeb3a03c54fd0c29f801c0d19950ce68c7ce", func := "donatus/donatuslaw23.TrackNone", spec := "trackNone", recurses := true, apart := false }
def TrackNoneSaid : Prop := trackNoneRow.holds Try.pinned (OpenSpec.ofChange trackNoneSpec)

/-- ITS FALSE NEIGHBOUR: 'it returns false'. Refute it at one input. -/
def trackNoneWrong : ChangeSpec := { name := "trackNone", fn := fun _ => fun
  | [] => { results := [.lit (.bool false)], args := [] }
  | _ => none }
def TrackNoneWrongFalsely : Prop := trackNoneRow.holds Try.pinned (OpenSpec.ofChange trackNoneWrong)

/-- 'donatuslaw23.TrackNear': WHATEVER THE INPUT: true; the input reads as it did. -/
def trackNearSpec : ChangeSpec := { name := "trackNear", fn := fun _ => fun
  | [d1, d2] => { results := [.lit (.bool true)], args := [d1, d2] }
  | _ => none }
def trackNearRow : OpenClaim := { program := "ytfodghhmglbapab", sum := "55a9f45deec5a889b11ab1dce06caeb3a03c54fd0c29f801c0d19950ce68c7ce", func := "donatus/donatuslaw23.TrackNear", spec := "trackNear", recurses := true, apart := false }
def TrackNearSaid : Prop := trackNearRow.holds Try.pinned (OpenSpec.ofChange trackNearSpec)

/-- ITS FALSE NEIGHBOUR: 'it returns false'. Refute it at one input. -/
def trackNearWrong : ChangeSpec := { name := "trackNear", fn := fun _ => fun
  | [d1, d2] => { results := [.lit (.bool false)], args := [d1, d2] }
  | _ => none }
def TrackNearWrongFalsely : Prop := trackNearRow.holds Try.pinned (OpenSpec.ofChange trackNearWrong)

/-- 'donatuslaw20.ConfMiddle': WHATEVER THE INPUT: true; the input reads as it did. -/
def confMiddleSpec : ChangeSpec := { name := "confMiddle", fn := fun _ => fun
  | [d1, d2] => { results := [.lit (.bool true)], args := [d1, d2] }
  | _ => none }
def confMiddleRow : OpenClaim := { program := "ytfodghhmglbapab", sum := "55a9f45deec5a889b11ab1dce06caeb3a03c54fd0c29f801c0d19950ce68c7ce", func := "donatus/donatuslaw20.ConfMiddle", spec := "confMiddle", recurses := true, apart := false }
def ConfMiddleSaid : Prop := confMiddleRow.holds Try.pinned (OpenSpec.ofChange confMiddleSpec)

/-- ITS FALSE NEIGHBOUR: 'it returns false'. Refute it at one input. -/
def confMiddleWrong : ChangeSpec := { name := "confMiddle", fn := fun _ => fun
  | [d1, d2] => { results := [.lit (.bool false)], args := [d1, d2] }
  | _ => none }
def ConfMiddleWrongFalsely : Prop := confMiddleRow.holds Try.pinned (OpenSpec.ofChange confMiddleWrong)

/-- 'donatuslaw25.NetNone': WHATEVER THE INPUT: true; the input reads as it did. -/
def netNoneSpec : ChangeSpec := { name := "netNone", fn := fun _ => fun
  | [] => { results := [.lit (.bool true)], args := [] }
  | _ => none }
def netNoneRow : OpenClaim := { program := "ytfodghhmglbapab", sum := "55a9f45deec5a889b11ab1dce06caeb3a03c54fd0c29f801c0d19950ce68c7ce", func := "donatus/donatuslaw25.NetNone", spec := "netNone", unfollowed := true, recurses := true, apart := false }
def NetNoneSaid : Prop := netNoneRow.holds Try.pinned (OpenSpec.ofChange netNoneSpec)

/-- ITS FALSE NEIGHBOUR: 'it returns false'. Refute it at one input. -/
def netNoneWrong : ChangeSpec := { name := "netNone", fn := fun _ => fun
  | [] => { results := [.lit (.bool false)], args := [] }
  | _ => none }
def NetNoneWrongFalsely : Prop := netNoneRow.holds Try.pinned (OpenSpec.ofChange netNoneWrong)

/-- 'donatuslaw25.NetAll': WHATEVER THE INPUT: true; the input reads as it did. -/
def netAllSpec : ChangeSpec := { name := "netAll", fn := fun _ => fun
  | [d] => { results := [.lit (.bool true)], args := [d] }
  | _ => none }
def netAllRow : OpenClaim := { program := "ytfodghhmglbapab", sum := "55a9f45deec5a889b11ab1dce06caeb3a03c54fd0c29f801c0d19950ce68c7ce", func := "donatus/donatuslaw25.NetAll", spec := "netAll", unfollowed := true, recurses := true, apart := false }
def NetAllSaid : Prop := netAllRow.holds Try.pinned (OpenSpec.ofChange netAllSpec)

/-- ITS FALSE NEIGHBOUR: 'it returns false'. Refute it at one input. -/
def netAllWrong : ChangeSpec := { name := "netAll", fn := fun _ => fun
  | [d] => { results := [.lit (.bool false)], args := [d] }
  | _ => none }
def NetAllWrongFalsely : Prop := netAllRow.holds Try.pinned (OpenSpec.ofChange netAllWrong)

/-- 'donatuslaw20.ConfMeet': WHATEVER THE INPUT: true; the input reads as it did. -/
def confMeetSpec : ChangeSpec := { name := "confMeet", fn := fun _ => fun
  | [d1, d2, d3, d4] => { results := [.lit (.bool true)], args := [d1, d2, d3, d4] }
  | _ => none }
def confMeetRow : OpenClaim := { program := "ytfodghhmglbapab", sum := "55a9f45deec5a889b11ab1dce06caeb3a03c54fd0c29f801c0d19950ce68c7ce", func := "donatus/donatuslaw20.ConfMeet", spec := "confMeet", unfollowed := true, recurses := true, apart := false }
def ConfMeetSaid : Prop := confMeetRow.holds Try.pinned (OpenSpec.ofChange confMeetSpec)

/-- ITS FALSE NEIGHBOUR: 'it returns false'. Refute it at one input. -/
def confMeetWrong : ChangeSpec := { name := "confMeet", fn := fun _ => fun
  | [d1, d2, d3, d4] => { results := [.lit (.bool false)], args := [d1, d2, d3, d4] }
  | _ => none }
def ConfMeetWrongFalsely : Prop := confMeetRow.holds Try.pinned (OpenSpec.ofChange confMeetWrong)

/- THE SECOND FORM. 'bulk': how many values and letters a reading holds, each counted each time it is reached (what is shared counts as often as it is met; a slice's spare places count too). A statement '..UptoSaid' is the law's where the arguments, and the package variables that the reading takes, are together of bulk at most 1048576: NARROWER than '..Said'. Prove '..Said' where nothing that the law and all that it calls make is longer than what came in: it says more and counts as full. Else prove '..UptoSaid'. A law counts once. -/
mutual
def uptoBulk {H : Type} : DataW H → Nat
  | .lit (.string bytes) => bytes.length + 1
  | .lit _ => 1
  | .nil => 1
  | .ptr d => uptoBulk d + 1
  | .slice elems spare => uptoBulkAll elems + uptoBulkAll spare + 1
  | .agg parts => uptoBulkAll parts + 1
  | .iface _ d => uptoBulk d + 1
  | .map entries => uptoBulkEntries entries + 1
  | .held _ => 1
def uptoBulkAll {H : Type} : List (DataW H) → Nat
  | [] => 0
  | d :: r => uptoBulk d + uptoBulkAll r
def uptoBulkEntries {H : Type} : List (Lit × DataW H) → Nat
  | [] => 0
  | x :: r => uptoBulkEntry x + uptoBulkEntries r
def uptoBulkEntry {H : Type} : Lit × DataW H → Nat
  | (.string bytes, d) => bytes.length + uptoBulk d + 1
  | (_, d) => uptoBulk d + 1
 end
def uptoSmall : (H : Type) → List (DataW H) → Bool := fun _ ds => decide (uptoBulkAll ds ≤ 1048576)
def OpenSpec.upto (s : _root_.Go.ChangeSpec) : _root_.Go.OpenSpec := { _root_.Go.OpenSpec.ofChange s with cond := some uptoSmall }

/-- 'donatuslaw23.TrackNone', WHERE WHAT IT READS IS OF BULK AT MOST 1048576: true; the input reads as it did. -/
def trackNoneUptoRow : OpenClaim := { program := "ytfodghhmglbapab", sum := "55a9f45deec5a889b11ab1dce06caeb3a03c54fd0c29f801c0d19950ce68c7ce", func := "donatus/donatuslaw23.TrackNone", spec := "trackNone", recurses := true, apart := false, narrowed := true }
def TrackNoneUptoSaid : Prop := trackNoneUptoRow.holds Try.pinned (OpenSpec.upto trackNoneSpec)

/-- 'donatuslaw23.TrackNear', WHERE WHAT IT READS IS OF BULK AT MOST 1048576: true; the input reads as it did. -/
def trackNearUptoRow : OpenClaim := { program := "ytfodghhmglbapab", sum := "55a9f45deec5a889b11ab1dce06caeb3a03c54fd0c29f801c0d19950ce68c7ce", func := "donatus/donatuslaw23.TrackNear", spec := "trackNear", recurses := true, apart := false, narrowed := true }
def TrackNearUptoSaid : Prop := trackNearUptoRow.holds Try.pinned (OpenSpec.upto trackNearSpec)

/-- 'donatuslaw20.ConfMiddle', WHERE WHAT IT READS IS OF BULK AT MOST 1048576: true; the input reads as it did. -/
def confMiddleUptoRow : OpenClaim := { program := "ytfodghhmglbapab", sum := "55a9f45deec5a889b11ab1dce06caeb3a03c54fd0c29f801c0d19950ce68c7ce", func := "donatus/donatuslaw20.ConfMiddle", spec := "confMiddle", recurses := true, apart := false, narrowed := true }
def ConfMiddleUptoSaid : Prop := confMiddleUptoRow.holds Try.pinned (OpenSpec.upto confMiddleSpec)

/-- 'donatuslaw25.NetNone', WHERE WHAT IT READS IS OF BULK AT MOST 1048576: true; the input reads as it did. -/
def netNoneUptoRow : OpenClaim := { program := "ytfodghhmglbapab", sum := "55a9f45deec5a889b11ab1dce06caeb3a03c54fd0c29f801c0d19950ce68c7ce", func := "donatus/donatuslaw25.NetNone", spec := "netNone", unfollowed := true, recurses := true, apart := false, narrowed := true }
def NetNoneUptoSaid : Prop := netNoneUptoRow.holds Try.pinned (OpenSpec.upto netNoneSpec)

/-- 'donatuslaw25.NetAll', WHERE WHAT IT READS IS OF BULK AT MOST 1048576: true; the input reads as it did. -/
def netAllUptoRow : OpenClaim := { program := "ytfodghhmglbapab", sum := "55a9f45deec5a889b11ab1dce06caeb3a03c54fd0c29f801c0d19950ce68c7ce", func := "donatus/donatuslaw25.NetAll", spec := "netAll", unfollowed := true, recurses := true, apart := false, narrowed := true }
def NetAllUptoSaid : Prop := netAllUptoRow.holds Try.pinned (OpenSpec.upto netAllSpec)

/-- 'donatuslaw20.ConfMeet', WHERE WHAT IT READS IS OF BULK AT MOST 1048576: true; the input reads as it did. -/
def confMeetUptoRow : OpenClaim := { program := "ytfodghhmglbapab", sum := "55a9f45deec5a889b11ab1dce06caeb3a03c54fd0c29f801c0d19950ce68c7ce", func := "donatus/donatuslaw20.ConfMeet", spec := "confMeet", unfollowed := true, recurses := true, apart := false, narrowed := true }
def ConfMeetUptoSaid : Prop := confMeetUptoRow.holds Try.pinned (OpenSpec.upto confMeetSpec)

end Rows
end Go.Proofs.Ytfodghhmglbapab
