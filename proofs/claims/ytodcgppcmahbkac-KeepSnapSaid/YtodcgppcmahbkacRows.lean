/-
  No cell of these rows narrows 'for every input' (looked for: loops, veiled, ifaces, maps, wideKeys, modest, calm, conditions, laid).
  DERIVED. THE GIVEN ROWS OF THIS SEAT. 2 by the template 'for every input the law returns true; each argument reads behind the call as it read before'; 0 by the template 'total and deterministic' (their statements: YtodcgppcmahbkacTotals.lean).
  GIVEN WITH THE SEED: the statements are not yours to turn. If you find one false, say at which input.
  Laid BY PROGRAM, IN A SANDBOX (cutbox-rows.mjs): the forced cells as the released guide's own fill.sh prints them over the translation 8e9e9e4b6e0fe40f… (all of the seat's roots in one cut). By AI agents, Wed Nov 11 2026. No macro, syntax, notation, axiom, sorry.
-/
import Derived.Test.YtodcgppcmahbkacChecked
import GoSem.Claim
import GoSem.ClaimJoined
import GoSem.ClaimMapViews
import Derived.JoinedTies
import Derived.KernelRfl
namespace Go.Proofs.Ytodcgppcmahbkac
/- THE CELL 'sum', in the pinned program and in every row, IS THE sha256 OF THE DUMP (.gsa) THAT YtodcgppcmahbkacProg.lean LOADS. Nothing in Lean hashes anything: it is a label: what it is worth is what the hold of that sum in a sandbox is worth. -/
noncomputable def Try.pinned : Pinned := { name := "ytodcgppcmahbkac", sum := "8e9e9e4b6e0fe40fec91a0cad62057ea478b32a0db84f71871cb0e2cbcd31d7e", checked := Try.checked }
namespace Rows
def none {H : Type} : Left H := { results := [], args := [] }

/-- 'donatuslaw19.KeepNone': WHATEVER THE INPUT: true; the input reads as it did. -/
def keepNoneSpec : ChangeSpec := { name := "keepNone", fn := fun _ => fun
  | [] => { results := [.lit (.bool true)], args := [] }
  | _ => none }
def keepNoneRow : OpenClaim := { program := "ytodcgppcmahbkac", sum := "8e9e9e4b6e0fe40fec91a0cad62057ea478b32a0db84f71871cb0e2cbcd31d7e", func := "donatus/donatuslaw19.KeepNone", spec := "keepNone", unfollowed := true, recurses := true, apart := false }
def KeepNoneSaid : Prop := keepNoneRow.holds Try.pinned (OpenSpec.ofChange keepNoneSpec)

/-- ITS FALSE NEIGHBOUR: 'it returns false'. Refute it at one input. -/
def keepNoneWrong : ChangeSpec := { name := "keepNone", fn := fun _ => fun
  | [] => { results := [.lit (.bool false)], args := [] }
  | _ => none }
def KeepNoneWrongFalsely : Prop := keepNoneRow.holds Try.pinned (OpenSpec.ofChange keepNoneWrong)

/-- 'donatuslaw19.KeepSnap': WHATEVER THE INPUT: true; the input reads as it did. -/
def keepSnapSpec : ChangeSpec := { name := "keepSnap", fn := fun _ => fun
  | [d1, d2, d3] => { results := [.lit (.bool true)], args := [d1, d2, d3] }
  | _ => none }
def keepSnapRow : OpenClaim := { program := "ytodcgppcmahbkac", sum := "8e9e9e4b6e0fe40fec91a0cad62057ea478b32a0db84f71871cb0e2cbcd31d7e", func := "donatus/donatuslaw19.KeepSnap", spec := "keepSnap", unfollowed := true, recurses := true, apart := false }
def KeepSnapSaid : Prop := keepSnapRow.holds Try.pinned (OpenSpec.ofChange keepSnapSpec)

/-- ITS FALSE NEIGHBOUR: 'it returns false'. Refute it at one input. -/
def keepSnapWrong : ChangeSpec := { name := "keepSnap", fn := fun _ => fun
  | [d1, d2, d3] => { results := [.lit (.bool false)], args := [d1, d2, d3] }
  | _ => none }
def KeepSnapWrongFalsely : Prop := keepSnapRow.holds Try.pinned (OpenSpec.ofChange keepSnapWrong)

/- THE SECOND FORM. 'bulk': how many values and letters a reading holds, each counted each time it is reached (what is shared counts as often as it is met; a slice's spare places count too). A statement '..UptoSaid' is the law's where the arguments, and the package variables that the reading takes, are together of bulk at most 1048576: NARROWER than '..Said'. Prove '..Said' where nothing that the law and all that it calls make is longer than what came in: it says more and counts as full. Else prove '..UptoSaid'. A law counts once. -/
mutual
def uptoBulk {H : Type} : DataW H → Nat
  | .lit (.string bytes) => bytes.length + 1
  | .lit _ => 1
  | .nil => 1
  | .ptr d => uptoBulk d + 1
  | .slice elems spare => uptoBulkAll elems + uptoBulkAll spare + 1
  | .agg parts => uptoBulkAll parts + 1
  | .iface _ d => uptoBulk d + 1
  | .map entries => uptoBulkEntries entries + 1
  | .held _ => 1
def uptoBulkAll {H : Type} : List (DataW H) → Nat
  | [] => 0
  | d :: r => uptoBulk d + uptoBulkAll r
def uptoBulkEntries {H : Type} : List (Lit × DataW H) → Nat
  | [] => 0
  | x :: r => uptoBulkEntry x + uptoBulkEntries r
def uptoBulkEntry {H : Type} : Lit × DataW H → Nat
  | (.string bytes, d) => bytes.length + uptoBulk d + 1
  | (_, d) => uptoBulk d + 1
 end
def uptoSmall : (H : Type) → List (DataW H) → Bool := fun _ ds => decide (uptoBulkAll ds ≤ 1048576)
def OpenSpec.upto (s : _root_.Go.ChangeSpec) : _root_.Go.OpenSpec := { _root_.Go.OpenSpec.ofChange s with cond := some uptoSmall }

/-- 'donatuslaw19.KeepNone', WHERE WHAT IT READS IS OF BULK AT MOST 1048576: true; the input reads as it did. -/
def keepNoneUptoRow : OpenClaim := { program := "ytodcgppcmahbkac", sum := "8e9e9e4b6e0fe40fec91a0cad62057ea478b32a0db84f71871cb0e2cbcd31d7e", func := "donatus/donatuslaw19.KeepNone", spec := "keepNone", unfollowed := true, recurses := true, apart := false, narrowed := true }
def KeepNoneUptoSaid : Prop := keepNoneUptoRow.holds Try.pinned (OpenSpec.upto keepNoneSpec)

/-- 'donatuslaw19.KeepSnap', WHERE WHAT IT READS IS OF BULK AT MOST 1048576: true; the input reads as it did. -/
def keepSnapUptoRow : OpenClaim := { program := "ytodcgppcmahbkac", sum := "8e9e9e4b6e0fe40fec91a0cad62057ea478b32a0db84f71871cb0e2cbcd31d7e", func := "donatus/donatuslaw19.KeepSnap", spec := "keepSnap", unfollowed := true, recurses := true, apart := false, narrowed := true }
def KeepSnapUptoSaid : Prop := keepSnapUptoRow.holds Try.pinned (OpenSpec.upto keepSnapSpec)

end Rows
end Go.Proofs.Ytodcgppcmahbkac
