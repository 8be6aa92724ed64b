/-
  No cell of these rows narrows 'for every input' (looked for: loops, veiled, ifaces, maps, wideKeys, modest, calm, conditions, laid).
  DERIVED. THE GIVEN ROWS OF THIS SEAT. 6 by the template 'for every input the law returns true; each argument reads behind the call as it read before'; 0 by the template 'total and deterministic' (their statements: YtoamlagpnnmnhaaTotals.lean).
  GIVEN WITH THE SEED: the statements are not yours to turn. If you find one false, say at which input.
  Laid BY PROGRAM, IN A SANDBOX (cutbox-rows.mjs): the forced cells as the released guide's own fill.sh prints them over the translation 2af2624db505d947… (all of the seat's roots in one cut). By AI agents, Wed Nov 11 2026. No macro, syntax, notation, axiom, sorry.
-/
import Derived.Test.YtoamlagpnnmnhaaChecked
import GoSem.Claim
import GoSem.ClaimJoined
import GoSem.ClaimMapViews
import Derived.JoinedTies
import Derived.KernelRfl
namespace Go.Proofs.Ytoamlagpnnmnhaa
/- THE CELL 'sum', in the pinned program and in every row, IS THE sha256 OF THE DUMP (.gsa) THAT YtoamlagpnnmnhaaProg.lean LOADS. Nothing in Lean hashes anything: it is a label: what it is worth is what the hold of that sum in a sandbox is worth. -/
noncomputable def Try.pinned : Pinned := { name := "ytoamlagpnnmnhaa", sum := "2af2624db505d947d5e318b658cc66a3bf88e22e7c5251c0feb58208a7e1c44d", checked := Try.checked }
namespace Rows
def none {H : Type} : Left H := { results := [], args := [] }

/-- 'donatuslaw21.LogAgain': WHATEVER THE INPUT: true; the input reads as it did. -/
def logAgainSpec : ChangeSpec := { name := "logAgain", fn := fun _ => fun
  | [d1, d2, d3, d4] => { results := [.lit (.bool true)], args := [d1, d2, d3, d4] }
  | _ => none }
def logAgainRow : OpenClaim := { program := "ytoamlagpnnmnhaa", sum := "2af2624db505d947d5e318b658cc66a3bf88e22e7c5251c0feb58208a7e1c44d", func := "donatus/donatuslaw21.LogAgain", spec := "logAgain", unfollowed := true, recurses := true, apart := false }
def LogAgainSaid : Prop := logAgainRow.holds Try.pinned (OpenSpec.ofChange logAgainSpec)

/-- ITS FALSE NEIGHBOUR: 'it returns false'. Refute it at one input. -/
def logAgainWrong : ChangeSpec := { name := "logAgain", fn := fun _ => fun
  | [d1, d2, d3, d4] => { results := [.lit (.bool false)], args := [d1, d2, d3, d4] }
  | _ => none }
def LogAgainWrongFalsely : Prop := logAgainRow.holds Try.pinned (OpenSpec.ofChange logAgainWrong)

/-- 'donatuslaw21.LogCut': WHATEVER THE INPUT: true; the input reads as it did. -/
def logCutSpec : ChangeSpec := { name := "logCut", fn := fun _ => fun
  | [d1, d2] => { results := [.lit (.bool true)], args := [d1, d2] }
  | _ => none }
def logCutRow : OpenClaim := { program := "ytoamlagpnnmnhaa", sum := "2af2624db505d947d5e318b658cc66a3bf88e22e7c5251c0feb58208a7e1c44d", func := "donatus/donatuslaw21.LogCut", spec := "logCut", unfollowed := true, recurses := true, apart := false }
def LogCutSaid : Prop := logCutRow.holds Try.pinned (OpenSpec.ofChange logCutSpec)

/-- ITS FALSE NEIGHBOUR: 'it returns false'. Refute it at one input. -/
def logCutWrong : ChangeSpec := { name := "logCut", fn := fun _ => fun
  | [d1, d2] => { results := [.lit (.bool false)], args := [d1, d2] }
  | _ => none }
def LogCutWrongFalsely : Prop := logCutRow.holds Try.pinned (OpenSpec.ofChange logCutWrong)

/-- 'donatuslaw21.LogOwn': WHATEVER THE INPUT: true; the input reads as it did. -/
def logOwnSpec : ChangeSpec := { name := "logOwn", fn := fun _ => fun
  | [d1, d2] => { results := [.lit (.bool true)], args := [d1, d2] }
  | _ => none }
def logOwnRow : OpenClaim := { program := "ytoamlagpnnmnhaa", sum := "2af2624db505d947d5e318b658cc66a3bf88e22e7c5251c0feb58208a7e1c44d", func := "donatus/donatuslaw21.LogOwn", spec := "logOwn", unfollowed := true, recurses := true, apart := false }
def LogOwnSaid : Prop := logOwnRow.holds Try.pinned (OpenSpec.ofChange logOwnSpec)

/-- ITS FALSE NEIGHBOUR: 'it returns false'. Refute it at one input. -/
def logOwnWrong : ChangeSpec := { name := "logOwn", fn := fun _ => fun
  | [d1, d2] => { results := [.lit (.bool false)], args := [d1, d2] }
  | _ => none }
def LogOwnWrongFalsely : Prop := logOwnRow.holds Try.pinned (OpenSpec.ofChange logOwnWrong)

/-- 'donatuslaw21.LogConf': WHATEVER THE INPUT: true; the input reads as it did. -/
def logConfSpec : ChangeSpec := { name := "logConf", fn := fun _ => fun
  | [d1, d2] => { results := [.lit (.bool true)], args := [d1, d2] }
  | _ => none }
def logConfRow : OpenClaim := { program := "ytoamlagpnnmnhaa", sum := "2af2624db505d947d5e318b658cc66a3bf88e22e7c5251c0feb58208a7e1c44d", func := "donatus/donatuslaw21.LogConf", spec := "logConf", unfollowed := true, recurses := true, apart := false }
def LogConfSaid : Prop := logConfRow.holds Try.pinned (OpenSpec.ofChange logConfSpec)

/-- ITS FALSE NEIGHBOUR: 'it returns false'. Refute it at one input. -/
def logConfWrong : ChangeSpec := { name := "logConf", fn := fun _ => fun
  | [d1, d2] => { results := [.lit (.bool false)], args := [d1, d2] }
  | _ => none }
def LogConfWrongFalsely : Prop := logConfRow.holds Try.pinned (OpenSpec.ofChange logConfWrong)

/-- 'donatuslaw21.LogAll': WHATEVER THE INPUT: true; the input reads as it did. -/
def logAllSpec : ChangeSpec := { name := "logAll", fn := fun _ => fun
  | [d1, d2, d3] => { results := [.lit (.bool true)], args := [d1, d2, d3] }
  | _ => none }
def logAllRow : OpenClaim := { program := "ytoamlagpnnmnhaa", sum := "2af2624db505d947d5e318b658cc66a3bf88e22e7c5251c0feb58208a7e1c44d", func := "donatus/donatuslaw21.LogAll", spec := "logAll", unfollowed := true, recurses := true, apart := false }
def LogAllSaid : Prop := logAllRow.holds Try.pinned (OpenSpec.ofChange logAllSpec)

/-- ITS FALSE NEIGHBOUR: 'it returns false'. Refute it at one input. -/
def logAllWrong : ChangeSpec := { name := "logAll", fn := fun _ => fun
  | [d1, d2, d3] => { results := [.lit (.bool false)], args := [d1, d2, d3] }
  | _ => none }
def LogAllWrongFalsely : Prop := logAllRow.holds Try.pinned (OpenSpec.ofChange logAllWrong)

/-- 'donatuslaw21.LogNone': WHATEVER THE INPUT: true; the input reads as it did. -/
def logNoneSpec : ChangeSpec := { name := "logNone", fn := fun _ => fun
  | [] => { results := [.lit (.bool true)], args := [] }
  | _ => none }
def logNoneRow : OpenClaim := { program := "ytoamlagpnnmnhaa", sum := "2af2624db505d947d5e318b658cc66a3bf88e22e7c5251c0feb58208a7e1c44d", func := "donatus/donatuslaw21.LogNone", spec := "logNone", unfollowed := true, recurses := true, apart := false }
def LogNoneSaid : Prop := logNoneRow.holds Try.pinned (OpenSpec.ofChange logNoneSpec)

/-- ITS FALSE NEIGHBOUR: 'it returns false'. Refute it at one input. -/
def logNoneWrong : ChangeSpec := { name := "logNone", fn := fun _ => fun
  | [] => { results := [.lit (.bool false)], args := [] }
  | _ => none }
def LogNoneWrongFalsely : Prop := logNoneRow.holds Try.pinned (OpenSpec.ofChange logNoneWrong)

/- THE SECOND FORM. 'bulk': how many values and letters a reading holds, each counted each time it is reached (what is shared counts as often as it is met; a slice's spare places count too). A statement '..UptoSaid' is the law's where the arguments, and the package variables that the reading takes, are together of bulk at most 1048576: NARROWER than '..Said'. Prove '..Said' where nothing that the law and all that it calls make is longer than what came in: it says more and counts as full. Else prove '..UptoSaid'. A law counts once. -/
mutual
def uptoBulk {H : Type} : DataW H → Nat
  | .lit (.string bytes) => bytes.length + 1
  | .lit _ => 1
  | .nil => 1
  | .ptr d => uptoBulk d + 1
  | .slice elems spare => uptoBulkAll elems + uptoBulkAll spare + 1
  | .agg parts => uptoBulkAll parts + 1
  | .iface _ d => uptoBulk d + 1
  | .map entries => uptoBulkEntries entries + 1
  | .held _ => 1
def uptoBulkAll {H : Type} : List (DataW H) → Nat
  | [] => 0
  | d :: r => uptoBulk d + uptoBulkAll r
def uptoBulkEntries {H : Type} : List (Lit × DataW H) → Nat
  | [] => 0
  | x :: r => uptoBulkEntry x + uptoBulkEntries r
def uptoBulkEntry {H : Type} : Lit × DataW H → Nat
  | (.string bytes, d) => bytes.length + uptoBulk d + 1
  | (_, d) => uptoBulk d + 1
 end
def uptoSmall : (H : Type) → List (DataW H) → Bool := fun _ ds => decide (uptoBulkAll ds ≤ 1048576)
def OpenSpec.upto (s : _root_.Go.ChangeSpec) : _root_.Go.OpenSpec := { _root_.Go.OpenSpec.ofChange s with cond := some uptoSmall }

/-- 'donatuslaw21.LogAgain', WHERE WHAT IT READS IS OF BULK AT MOST 1048576: true; the input reads as it did. -/
def logAgainUptoRow : OpenClaim := { program := "ytoamlagpnnmnhaa", sum := "2af2624db505d947d5e318b658cc66a3bf88e22e7c5251c0feb58208a7e1c44d", func := "donatus/donatuslaw21.LogAgain", spec := "logAgain", unfollowed := true, recurses := true, apart := false, narrowed := true }
def LogAgainUptoSaid : Prop := logAgainUptoRow.holds Try.pinned (OpenSpec.upto logAgainSpec)

/-- 'donatuslaw21.LogCut', WHERE WHAT IT READS IS OF BULK AT MOST 1048576: true; the input reads as it did. -/
def logCutUptoRow : OpenClaim := { program := "ytoamlagpnnmnhaa", sum := "2af2624db505d947d5e318b658cc66a3bf88e22e7c5251c0feb58208a7e1c44d", func := "donatus/donatuslaw21.LogCut", spec := "logCut", unfollowed := true, recurses := true, apart := false, narrowed := true }
def LogCutUptoSaid : Prop := logCutUptoRow.holds Try.pinned (OpenSpec.upto logCutSpec)

/-- 'donatuslaw21.LogOwn', WHERE WHAT IT READS IS OF BULK AT MOST 1048576: true; the input reads as it did. -/
def logOwnUptoRow : OpenClaim := { program := "ytoamlagpnnmnhaa", sum := "2af2624db505d947d5e318b658cc66a3bf88e22e7c5251c0feb58208a7e1c44d", func := "donatus/donatuslaw21.LogOwn", spec := "logOwn", unfollowed := true, recurses := true, apart := false, narrowed := true }
def LogOwnUptoSaid : Prop := logOwnUptoRow.holds Try.pinned (OpenSpec.upto logOwnSpec)

/-- 'donatuslaw21.LogConf', WHERE WHAT IT READS IS OF BULK AT MOST 1048576: true; the input reads as it did. -/
def logConfUptoRow : OpenClaim := { program := "ytoamlagpnnmnhaa", sum := "2af2624db505d947d5e318b658cc66a3bf88e22e7c5251c0feb58208a7e1c44d", func := "donatus/donatuslaw21.LogConf", spec := "logConf", unfollowed := true, recurses := true, apart := false, narrowed := true }
def LogConfUptoSaid : Prop := logConfUptoRow.holds Try.pinned (OpenSpec.upto logConfSpec)

/-- 'donatuslaw21.LogAll', WHERE WHAT IT READS IS OF BULK AT MOST 1048576: true; the input reads as it did. -/
def logAllUptoRow : OpenClaim := { program := "ytoamlagpnnmnhaa", sum := "2af2624db505d947d5e318b658cc66a3bf88e22e7c5251c0feb58208a7e1c44d", func := "donatus/donatuslaw21.LogAll", spec := "logAll", unfollowed := true, recurses := true, apart := false, narrowed := true }
def LogAllUptoSaid : Prop := logAllUptoRow.holds Try.pinned (OpenSpec.upto logAllSpec)

/-- 'donatuslaw21.LogNone', WHERE WHAT IT READS IS OF BULK AT MOST 1048576: true; the input reads as it did. -/
def logNoneUptoRow : OpenClaim := { program := "ytoamlagpnnmnhaa", sum := "2af2624db505d947d5e318b658cc66a3bf88e22e7c5251c0feb58208a7e1c44d", func := "donatus/donatuslaw21.LogNone", spec := "logNone", unfollowed := true, recurses := true, apart := false, narrowed := true }
def LogNoneUptoSaid : Prop := logNoneUptoRow.holds Try.pinned (OpenSpec.upto logNoneSpec)

end Rows
end Go.Proofs.Ytoamlagpnnmnhaa
