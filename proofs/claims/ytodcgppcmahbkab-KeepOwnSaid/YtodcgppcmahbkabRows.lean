/-
  No cell of these rows narrows 'for every input' (looked for: loops, veiled, ifaces, maps, wideKeys, modest, calm, conditions, laid).
  DERIVED. THE GIVEN ROWS OF THIS SEAT. 6 by the template 'for every input the law returns true; each argument reads behind the call as it read before'; 0 by the template 'total and deterministic' (their statements: YtodcgppcmahbkabTotals.lean).
  GIVEN WITH THE SEED: the statements are not yours to turn. If you find one false, say at which input.
  Laid BY PROGRAM, IN A SANDBOX (cutbox-rows.mjs): the forced cells as the released guide's own fill.sh prints them over the translation d4417d5a3c9f2891… (all of the seat's roots in one cut). By AI agents, Wed Nov 11 2026. No macro, syntax, notation, axiom, sorry.
-/
import Derived.Test.YtodcgppcmahbkabChecked
import GoSem.Claim
import GoSem.ClaimJoined
import GoSem.ClaimMapViews
import Derived.JoinedTies
import Derived.KernelRfl
namespace Go.Proofs.Ytodcgppcmahbkab
/- THE CELL 'sum', in the pinned program and in every row, IS THE sha256 OF THE DUMP (.gsa) THAT YtodcgppcmahbkabProg.lean LOADS. Nothing in Lean hashes anything: it is a label: what it is worth is what the hold of that sum in a sandbox is worth. -/
noncomputable def Try.pinned : Pinned := { name := "ytodcgppcmahbkab", sum := "d4417d5a3c9f289112598b50764d56254e248722ad3ebc345d3e1af18473a5aa", checked := Try.checked }
namespace Rows
def none {H : Type} : Left H := { results := [], args := [] }

/-- 'donatuslaw17.DiskTwice': WHATEVER THE INPUT: true; the input reads as it did. -/
def diskTwiceSpec : ChangeSpec := { name := "diskTwice", fn := fun _ => fun
  | [d1, d2, d3] => { results := [.lit (.bool true)], args := [d1, d2, d3] }
  | _ => none }
def diskTwiceRow : OpenClaim := { program := "ytodcgppcmahbkab", sum := "d4417d5a3c9f289112598b50764d56254e248722ad3ebc345d3e1af18473a5aa", func := "donatus/donatuslaw17.DiskTwice", spec := "diskTwice", unfollowed := true, recurses := true, apart := false }
def DiskTwiceSaid : Prop := diskTwiceRow.holds Try.pinned (OpenSpec.ofChange diskTwiceSpec)

/-- ITS FALSE NEIGHBOUR: 'it returns false'. Refute it at one input. -/
def diskTwiceWrong : ChangeSpec := { name := "diskTwice", fn := fun _ => fun
  | [d1, d2, d3] => { results := [.lit (.bool false)], args := [d1, d2, d3] }
  | _ => none }
def DiskTwiceWrongFalsely : Prop := diskTwiceRow.holds Try.pinned (OpenSpec.ofChange diskTwiceWrong)

/-- 'donatuslaw19.KeepSpoilt': WHATEVER THE INPUT: true; the input reads as it did. -/
def keepSpoiltSpec : ChangeSpec := { name := "keepSpoilt", fn := fun _ => fun
  | [d1, d2, d3, d4, d5] => { results := [.lit (.bool true)], args := [d1, d2, d3, d4, d5] }
  | _ => none }
def keepSpoiltRow : OpenClaim := { program := "ytodcgppcmahbkab", sum := "d4417d5a3c9f289112598b50764d56254e248722ad3ebc345d3e1af18473a5aa", func := "donatus/donatuslaw19.KeepSpoilt", spec := "keepSpoilt", unfollowed := true, recurses := true, apart := false }
def KeepSpoiltSaid : Prop := keepSpoiltRow.holds Try.pinned (OpenSpec.ofChange keepSpoiltSpec)

/-- ITS FALSE NEIGHBOUR: 'it returns false'. Refute it at one input. -/
def keepSpoiltWrong : ChangeSpec := { name := "keepSpoilt", fn := fun _ => fun
  | [d1, d2, d3, d4, d5] => { results := [.lit (.bool false)], args := [d1, d2, d3, d4, d5] }
  | _ => none }
def KeepSpoiltWrongFalsely : Prop := keepSpoiltRow.holds Try.pinned (OpenSpec.ofChange keepSpoiltWrong)

/-- 'donatuslaw19.KeepLaid': WHATEVER THE INPUT: true; the input reads as it did. -/
def keepLaidSpec : ChangeSpec := { name := "keepLaid", fn := fun _ => fun
  | [d1, d2] => { results := [.lit (.bool true)], args := [d1, d2] }
  | _ => none }
def keepLaidRow : OpenClaim := { program := "ytodcgppcmahbkab", sum := "d4417d5a3c9f289112598b50764d56254e248722ad3ebc345d3e1af18473a5aa", func := "donatus/donatuslaw19.KeepLaid", spec := "keepLaid", unfollowed := true, recurses := true, apart := false }
def KeepLaidSaid : Prop := keepLaidRow.holds Try.pinned (OpenSpec.ofChange keepLaidSpec)

/-- ITS FALSE NEIGHBOUR: 'it returns false'. Refute it at one input. -/
def keepLaidWrong : ChangeSpec := { name := "keepLaid", fn := fun _ => fun
  | [d1, d2] => { results := [.lit (.bool false)], args := [d1, d2] }
  | _ => none }
def KeepLaidWrongFalsely : Prop := keepLaidRow.holds Try.pinned (OpenSpec.ofChange keepLaidWrong)

/-- 'donatuslaw19.KeepFull': WHATEVER THE INPUT: true; the input reads as it did. -/
def keepFullSpec : ChangeSpec := { name := "keepFull", fn := fun _ => fun
  | [d] => { results := [.lit (.bool true)], args := [d] }
  | _ => none }
def keepFullRow : OpenClaim := { program := "ytodcgppcmahbkab", sum := "d4417d5a3c9f289112598b50764d56254e248722ad3ebc345d3e1af18473a5aa", func := "donatus/donatuslaw19.KeepFull", spec := "keepFull", unfollowed := true, recurses := true, apart := false }
def KeepFullSaid : Prop := keepFullRow.holds Try.pinned (OpenSpec.ofChange keepFullSpec)

/-- ITS FALSE NEIGHBOUR: 'it returns false'. Refute it at one input. -/
def keepFullWrong : ChangeSpec := { name := "keepFull", fn := fun _ => fun
  | [d] => { results := [.lit (.bool false)], args := [d] }
  | _ => none }
def KeepFullWrongFalsely : Prop := keepFullRow.holds Try.pinned (OpenSpec.ofChange keepFullWrong)

/-- 'donatuslaw19.KeepOwn': WHATEVER THE INPUT: true; the input reads as it did. -/
def keepOwnSpec : ChangeSpec := { name := "keepOwn", fn := fun _ => fun
  | [d] => { results := [.lit (.bool true)], args := [d] }
  | _ => none }
def keepOwnRow : OpenClaim := { program := "ytodcgppcmahbkab", sum := "d4417d5a3c9f289112598b50764d56254e248722ad3ebc345d3e1af18473a5aa", func := "donatus/donatuslaw19.KeepOwn", spec := "keepOwn", unfollowed := true, recurses := true, apart := false }
def KeepOwnSaid : Prop := keepOwnRow.holds Try.pinned (OpenSpec.ofChange keepOwnSpec)

/-- ITS FALSE NEIGHBOUR: 'it returns false'. Refute it at one input. -/
def keepOwnWrong : ChangeSpec := { name := "keepOwn", fn := fun _ => fun
  | [d] => { results := [.lit (.bool false)], args := [d] }
  | _ => none }
def KeepOwnWrongFalsely : Prop := keepOwnRow.holds Try.pinned (OpenSpec.ofChange keepOwnWrong)

/-- 'donatuslaw19.KeepCrash': WHATEVER THE INPUT: true; the input reads as it did. -/
def keepCrashSpec : ChangeSpec := { name := "keepCrash", fn := fun _ => fun
  | [d] => { results := [.lit (.bool true)], args := [d] }
  | _ => none }
def keepCrashRow : OpenClaim := { program := "ytodcgppcmahbkab", sum := "d4417d5a3c9f289112598b50764d56254e248722ad3ebc345d3e1af18473a5aa", func := "donatus/donatuslaw19.KeepCrash", spec := "keepCrash", unfollowed := true, recurses := true, apart := false }
def KeepCrashSaid : Prop := keepCrashRow.holds Try.pinned (OpenSpec.ofChange keepCrashSpec)

/-- ITS FALSE NEIGHBOUR: 'it returns false'. Refute it at one input. -/
def keepCrashWrong : ChangeSpec := { name := "keepCrash", fn := fun _ => fun
  | [d] => { results := [.lit (.bool false)], args := [d] }
  | _ => none }
def KeepCrashWrongFalsely : Prop := keepCrashRow.holds Try.pinned (OpenSpec.ofChange keepCrashWrong)

/- THE SECOND FORM. 'bulk': how many values and letters a reading holds, each counted each time it is reached (what is shared counts as often as it is met; a slice's spare places count too). A statement '..UptoSaid' is the law's where the arguments, and the package variables that the reading takes, are together of bulk at most 1048576: NARROWER than '..Said'. Prove '..Said' where nothing that the law and all that it calls make is longer than what came in: it says more and counts as full. Else prove '..UptoSaid'. A law counts once. -/
mutual
def uptoBulk {H : Type} : DataW H → Nat
  | .lit (.string bytes) => bytes.length + 1
  | .lit _ => 1
  | .nil => 1
  | .ptr d => uptoBulk d + 1
  | .slice elems spare => uptoBulkAll elems + uptoBulkAll spare + 1
  | .agg parts => uptoBulkAll parts + 1
  | .iface _ d => uptoBulk d + 1
  | .map entries => uptoBulkEntries entries + 1
  | .held _ => 1
def uptoBulkAll {H : Type} : List (DataW H) → Nat
  | [] => 0
  | d :: r => uptoBulk d + uptoBulkAll r
def uptoBulkEntries {H : Type} : List (Lit × DataW H) → Nat
  | [] => 0
  | x :: r => uptoBulkEntry x + uptoBulkEntries r
def uptoBulkEntry {H : Type} : Lit × DataW H → Nat
  | (.string bytes, d) => bytes.length + uptoBulk d + 1
  | (_, d) => uptoBulk d + 1
 end
def uptoSmall : (H : Type) → List (DataW H) → Bool := fun _ ds => decide (uptoBulkAll ds ≤ 1048576)
def OpenSpec.upto (s : _root_.Go.ChangeSpec) : _root_.Go.OpenSpec := { _root_.Go.OpenSpec.ofChange s with cond := some uptoSmall }

/-- 'donatuslaw17.DiskTwice', WHERE WHAT IT READS IS OF BULK AT MOST 1048576: true; the input reads as it did. -/
def diskTwiceUptoRow : OpenClaim := { program := "ytodcgppcmahbkab", sum := "d4417d5a3c9f289112598b50764d56254e248722ad3ebc345d3e1af18473a5aa", func := "donatus/donatuslaw17.DiskTwice", spec := "diskTwice", unfollowed := true, recurses := true, apart := false, narrowed := true }
def DiskTwiceUptoSaid : Prop := diskTwiceUptoRow.holds Try.pinned (OpenSpec.upto diskTwiceSpec)

/-- 'donatuslaw19.KeepSpoilt', WHERE WHAT IT READS IS OF BULK AT MOST 1048576: true; the input reads as it did. -/
def keepSpoiltUptoRow : OpenClaim := { program := "ytodcgppcmahbkab", sum := "d4417d5a3c9f289112598b50764d56254e248722ad3ebc345d3e1af18473a5aa", func := "donatus/donatuslaw19.KeepSpoilt", spec := "keepSpoilt", unfollowed := true, recurses := true, apart := false, narrowed := true }
def KeepSpoiltUptoSaid : Prop := keepSpoiltUptoRow.holds Try.pinned (OpenSpec.upto keepSpoiltSpec)

/-- 'donatuslaw19.KeepLaid', WHERE WHAT IT READS IS OF BULK AT MOST 1048576: true; the input reads as it did. -/
def keepLaidUptoRow : OpenClaim := { program := "ytodcgppcmahbkab", sum := "d4417d5a3c9f289112598b50764d56254e248722ad3ebc345d3e1af18473a5aa", func := "donatus/donatuslaw19.KeepLaid", spec := "keepLaid", unfollowed := true, recurses := true, apart := false, narrowed := true }
def KeepLaidUptoSaid : Prop := keepLaidUptoRow.holds Try.pinned (OpenSpec.upto keepLaidSpec)

/-- 'donatuslaw19.KeepFull', WHERE WHAT IT READS IS OF BULK AT MOST 1048576: true; the input reads as it did. -/
def keepFullUptoRow : OpenClaim := { program := "ytodcgppcmahbkab", sum := "d4417d5a3c9f289112598b50764d56254e248722ad3ebc345d3e1af18473a5aa", func := "donatus/donatuslaw19.KeepFull", spec := "keepFull", unfollowed := true, recurses := true, apart := false, narrowed := true }
def KeepFullUptoSaid : Prop := keepFullUptoRow.holds Try.pinned (OpenSpec.upto keepFullSpec)

/-- 'donatuslaw19.KeepOwn', WHERE WHAT IT READS IS OF BULK AT MOST 1048576: true; the input reads as it did. -/
def keepOwnUptoRow : OpenClaim := { program := "ytodcgppcmahbkab", sum := "d4417d5a3c9f289112598b50764d56254e248722ad3ebc345d3e1af18473a5aa", func := "donatus/donatuslaw19.KeepOwn", spec := "keepOwn", unfollowed := true, recurses := true, apart := false, narrowed := true }
def KeepOwnUptoSaid : Prop := keepOwnUptoRow.holds Try.pinned (OpenSpec.upto keepOwnSpec)

/-- 'donatuslaw19.KeepCrash', WHERE WHAT IT READS IS OF BULK AT MOST 1048576: true; the input reads as it did. -/
def keepCrashUptoRow : OpenClaim := { program := "ytodcgppcmahbkab", sum := "d4417d5a3c9f289112598b50764d56254e248722ad3ebc345d3e1af18473a5aa", func := "donatus/donatuslaw19.KeepCrash", spec := "keepCrash", unfollowed := true, recurses := true, apart := false, narrowed := true }
def KeepCrashUptoSaid : Prop := keepCrashUptoRow.holds Try.pinned (OpenSpec.upto keepCrashSpec)

end Rows
end Go.Proofs.Ytodcgppcmahbkab
