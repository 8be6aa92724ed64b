/-
  No cell of these rows narrows 'for every input' (looked for: loops, veiled, ifaces, maps, wideKeys, modest, calm, conditions, laid).
  DERIVED. THE GIVEN ROWS OF THIS SEAT. 6 by the template 'for every input the law returns true; each argument reads behind the call as it read before'; 0 by the template 'total and deterministic' (their statements: YtoolcbdceijjlaaGreatTotals.lean).
  GIVEN WITH THE SEED: the statements are not yours to turn. If you find one false, say at which input.
  Laid BY PROGRAM, IN A SANDBOX (cutbox-rows.mjs): the forced cells as the released guide's own fill.sh prints them over the translation 59d7a27e4b9193c8… (all of the seat's roots in one cut). By AI agents, Wed Nov 11 2026. No macro, syntax, notation, axiom, sorry.
-/
import Derived.Test.YtoolcbdceijjlaaGreatChecked
import GoSem.Claim
import GoSem.ClaimJoined
import GoSem.ClaimMapViews
import Derived.JoinedTies
import Derived.KernelRfl
namespace Go.Proofs.YtoolcbdceijjlaaGreat
/- THE CELL 'sum', in the pinned program and in every row, IS THE sha256 OF THE DUMP (.gsa) THAT YtoolcbdceijjlaaGreatProg.lean LOADS. Nothing in Lean hashes anything: it is a label: what it is worth is what the hold of that sum in a sandbox is worth. -/
noncomputable def Tryz.pinned : Pinned := { name := "ytoolcbdceijjlaagreat", sum := "59d7a27e4b9193c83295eae82974c9ff342877254e5565cb4c9cf6584e97fce0", checked := Tryz.checked }
namespace Rows
def none {H : Type} : Left H := { results := [], args := [] }

/-- 'donatuslaw24.RaftMay': WHATEVER THE INPUT: true; the input reads as it did. -/
def raftMaySpec : ChangeSpec := { name := "raftMay", fn := fun _ => fun
  | [d] => { results := [.lit (.bool true)], args := [d] }
  | _ => none }
def raftMayRow : OpenClaim := { program := "ytoolcbdceijjlaagreat", sum := "59d7a27e4b9193c83295eae82974c9ff342877254e5565cb4c9cf6584e97fce0", func := "donatus/donatuslaw24.RaftMay", spec := "raftMay", unfollowed := true, recurses := true, apart := false }
def RaftMaySaid : Prop := raftMayRow.holds Tryz.pinned (OpenSpec.ofChange raftMaySpec)

/-- ITS FALSE NEIGHBOUR: 'it returns false'. Refute it at one input. -/
def raftMayWrong : ChangeSpec := { name := "raftMay", fn := fun _ => fun
  | [d] => { results := [.lit (.bool false)], args := [d] }
  | _ => none }
def RaftMayWrongFalsely : Prop := raftMayRow.holds Tryz.pinned (OpenSpec.ofChange raftMayWrong)

/-- 'donatuslaw24.RaftVote': WHATEVER THE INPUT: true; the input reads as it did. -/
def raftVoteSpec : ChangeSpec := { name := "raftVote", fn := fun _ => fun
  | [d1, d2, d3, d4, d5] => { results := [.lit (.bool true)], args := [d1, d2, d3, d4, d5] }
  | _ => none }
def raftVoteRow : OpenClaim := { program := "ytoolcbdceijjlaagreat", sum := "59d7a27e4b9193c83295eae82974c9ff342877254e5565cb4c9cf6584e97fce0", func := "donatus/donatuslaw24.RaftVote", spec := "raftVote", unfollowed := true, recurses := true, apart := false }
def RaftVoteSaid : Prop := raftVoteRow.holds Tryz.pinned (OpenSpec.ofChange raftVoteSpec)

/-- ITS FALSE NEIGHBOUR: 'it returns false'. Refute it at one input. -/
def raftVoteWrong : ChangeSpec := { name := "raftVote", fn := fun _ => fun
  | [d1, d2, d3, d4, d5] => { results := [.lit (.bool false)], args := [d1, d2, d3, d4, d5] }
  | _ => none }
def RaftVoteWrongFalsely : Prop := raftVoteRow.holds Tryz.pinned (OpenSpec.ofChange raftVoteWrong)

/-- 'donatuslaw24.RaftOld': WHATEVER THE INPUT: true; the input reads as it did. -/
def raftOldSpec : ChangeSpec := { name := "raftOld", fn := fun _ => fun
  | [d] => { results := [.lit (.bool true)], args := [d] }
  | _ => none }
def raftOldRow : OpenClaim := { program := "ytoolcbdceijjlaagreat", sum := "59d7a27e4b9193c83295eae82974c9ff342877254e5565cb4c9cf6584e97fce0", func := "donatus/donatuslaw24.RaftOld", spec := "raftOld", unfollowed := true, recurses := true, apart := false }
def RaftOldSaid : Prop := raftOldRow.holds Tryz.pinned (OpenSpec.ofChange raftOldSpec)

/-- ITS FALSE NEIGHBOUR: 'it returns false'. Refute it at one input. -/
def raftOldWrong : ChangeSpec := { name := "raftOld", fn := fun _ => fun
  | [d] => { results := [.lit (.bool false)], args := [d] }
  | _ => none }
def RaftOldWrongFalsely : Prop := raftOldRow.holds Tryz.pinned (OpenSpec.ofChange raftOldWrong)

/-- 'donatuslaw24.RaftAlive': WHATEVER THE INPUT: true; the input reads as it did. -/
def raftAliveSpec : ChangeSpec := { name := "raftAlive", fn := fun _ => fun
  | [d1, d2] => { results := [.lit (.bool true)], args := [d1, d2] }
  | _ => none }
def raftAliveRow : OpenClaim := { program := "ytoolcbdceijjlaagreat", sum := "59d7a27e4b9193c83295eae82974c9ff342877254e5565cb4c9cf6584e97fce0", func := "donatus/donatuslaw24.RaftAlive", spec := "raftAlive", unfollowed := true, recurses := true, apart := false }
def RaftAliveSaid : Prop := raftAliveRow.holds Tryz.pinned (OpenSpec.ofChange raftAliveSpec)

/-- ITS FALSE NEIGHBOUR: 'it returns false'. Refute it at one input. -/
def raftAliveWrong : ChangeSpec := { name := "raftAlive", fn := fun _ => fun
  | [d1, d2] => { results := [.lit (.bool false)], args := [d1, d2] }
  | _ => none }
def RaftAliveWrongFalsely : Prop := raftAliveRow.holds Tryz.pinned (OpenSpec.ofChange raftAliveWrong)

/-- 'donatuslaw24.RaftNone': WHATEVER THE INPUT: true; the input reads as it did. -/
def raftNoneSpec : ChangeSpec := { name := "raftNone", fn := fun _ => fun
  | [] => { results := [.lit (.bool true)], args := [] }
  | _ => none }
def raftNoneRow : OpenClaim := { program := "ytoolcbdceijjlaagreat", sum := "59d7a27e4b9193c83295eae82974c9ff342877254e5565cb4c9cf6584e97fce0", func := "donatus/donatuslaw24.RaftNone", spec := "raftNone", unfollowed := true, recurses := true, apart := false }
def RaftNoneSaid : Prop := raftNoneRow.holds Tryz.pinned (OpenSpec.ofChange raftNoneSpec)

/-- ITS FALSE NEIGHBOUR: 'it returns false'. Refute it at one input. -/
def raftNoneWrong : ChangeSpec := { name := "raftNone", fn := fun _ => fun
  | [] => { results := [.lit (.bool false)], args := [] }
  | _ => none }
def RaftNoneWrongFalsely : Prop := raftNoneRow.holds Tryz.pinned (OpenSpec.ofChange raftNoneWrong)

/-- 'donatuslaw24.RaftTerm': WHATEVER THE INPUT: true; the input reads as it did. -/
def raftTermSpec : ChangeSpec := { name := "raftTerm", fn := fun _ => fun
  | [d1, d2] => { results := [.lit (.bool true)], args := [d1, d2] }
  | _ => none }
def raftTermRow : OpenClaim := { program := "ytoolcbdceijjlaagreat", sum := "59d7a27e4b9193c83295eae82974c9ff342877254e5565cb4c9cf6584e97fce0", func := "donatus/donatuslaw24.RaftTerm", spec := "raftTerm", unfollowed := true, recurses := true, apart := false }
def RaftTermSaid : Prop := raftTermRow.holds Tryz.pinned (OpenSpec.ofChange raftTermSpec)

/-- ITS FALSE NEIGHBOUR: 'it returns false'. Refute it at one input. -/
def raftTermWrong : ChangeSpec := { name := "raftTerm", fn := fun _ => fun
  | [d1, d2] => { results := [.lit (.bool false)], args := [d1, d2] }
  | _ => none }
def RaftTermWrongFalsely : Prop := raftTermRow.holds Tryz.pinned (OpenSpec.ofChange raftTermWrong)

/- THE SECOND FORM. 'bulk': how many values and letters a reading holds, each counted each time it is reached (what is shared counts as often as it is met; a slice's spare places count too). A statement '..UptoSaid' is the law's where the arguments, and the package variables that the reading takes, are together of bulk at most 1048576: NARROWER than '..Said'. Prove '..Said' where nothing that the law and all that it calls make is longer than what came in: it says more and counts as full. Else prove '..UptoSaid'. A law counts once. -/
mutual
def uptoBulk {H : Type} : DataW H → Nat
  | .lit (.string bytes) => bytes.length + 1
  | .lit _ => 1
  | .nil => 1
  | .ptr d => uptoBulk d + 1
  | .slice elems spare => uptoBulkAll elems + uptoBulkAll spare + 1
  | .agg parts => uptoBulkAll parts + 1
  | .iface _ d => uptoBulk d + 1
  | .map entries => uptoBulkEntries entries + 1
  | .held _ => 1
def uptoBulkAll {H : Type} : List (DataW H) → Nat
  | [] => 0
  | d :: r => uptoBulk d + uptoBulkAll r
def uptoBulkEntries {H : Type} : List (Lit × DataW H) → Nat
  | [] => 0
  | x :: r => uptoBulkEntry x + uptoBulkEntries r
def uptoBulkEntry {H : Type} : Lit × DataW H → Nat
  | (.string bytes, d) => bytes.length + uptoBulk d + 1
  | (_, d) => uptoBulk d + 1
 end
def uptoSmall : (H : Type) → List (DataW H) → Bool := fun _ ds => decide (uptoBulkAll ds ≤ 1048576)
def OpenSpec.upto (s : _root_.Go.ChangeSpec) : _root_.Go.OpenSpec := { _root_.Go.OpenSpec.ofChange s with cond := some uptoSmall }

/-- 'donatuslaw24.RaftMay', WHERE WHAT IT READS IS OF BULK AT MOST 1048576: true; the input reads as it did. -/
def raftMayUptoRow : OpenClaim := { program := "ytoolcbdceijjlaagreat", sum := "59d7a27e4b9193c83295eae82974c9ff342877254e5565cb4c9cf6584e97fce0", func := "donatus/donatuslaw24.RaftMay", spec := "raftMay", unfollowed := true, recurses := true, apart := false, narrowed := true }
def RaftMayUptoSaid : Prop := raftMayUptoRow.holds Tryz.pinned (OpenSpec.upto raftMaySpec)

/-- 'donatuslaw24.RaftVote', WHERE WHAT IT READS IS OF BULK AT MOST 1048576: true; the input reads as it did. -/
def raftVoteUptoRow : OpenClaim := { program := "ytoolcbdceijjlaagreat", sum := "59d7a27e4b9193c83295eae82974c9ff342877254e5565cb4c9cf6584e97fce0", func := "donatus/donatuslaw24.RaftVote", spec := "raftVote", unfollowed := true, recurses := true, apart := false, narrowed := true }
def RaftVoteUptoSaid : Prop := raftVoteUptoRow.holds Tryz.pinned (OpenSpec.upto raftVoteSpec)

/-- 'donatuslaw24.RaftOld', WHERE WHAT IT READS IS OF BULK AT MOST 1048576: true; the input reads as it did. -/
def raftOldUptoRow : OpenClaim := { program := "ytoolcbdceijjlaagreat", sum := "59d7a27e4b9193c83295eae82974c9ff342877254e5565cb4c9cf6584e97fce0", func := "donatus/donatuslaw24.RaftOld", spec := "raftOld", unfollowed := true, recurses := true, apart := false, narrowed := true }
def RaftOldUptoSaid : Prop := raftOldUptoRow.holds Tryz.pinned (OpenSpec.upto raftOldSpec)

/-- 'donatuslaw24.RaftAlive', WHERE WHAT IT READS IS OF BULK AT MOST 1048576: true; the input reads as it did. -/
def raftAliveUptoRow : OpenClaim := { program := "ytoolcbdceijjlaagreat", sum := "59d7a27e4b9193c83295eae82974c9ff342877254e5565cb4c9cf6584e97fce0", func := "donatus/donatuslaw24.RaftAlive", spec := "raftAlive", unfollowed := true, recurses := true, apart := false, narrowed := true }
def RaftAliveUptoSaid : Prop := raftAliveUptoRow.holds Tryz.pinned (OpenSpec.upto raftAliveSpec)

/-- 'donatuslaw24.RaftNone', WHERE WHAT IT READS IS OF BULK AT MOST 1048576: true; the input reads as it did. -/
def raftNoneUptoRow : OpenClaim := { program := "ytoolcbdceijjlaagreat", sum := "59d7a27e4b9193c83295eae82974c9ff342877254e5565cb4c9cf6584e97fce0", func := "donatus/donatuslaw24.RaftNone", spec := "raftNone", unfollowed := true, recurses := true, apart := false, narrowed := true }
def RaftNoneUptoSaid : Prop := raftNoneUptoRow.holds Tryz.pinned (OpenSpec.upto raftNoneSpec)

/-- 'donatuslaw24.RaftTerm', WHERE WHAT IT READS IS OF BULK AT MOST 1048576: true; the input reads as it did. -/
def raftTermUptoRow : OpenClaim := { program := "ytoolcbdceijjlaagreat", sum := "59d7a27e4b9193c83295eae82974c9ff342877254e5565cb4c9cf6584e97fce0", func := "donatus/donatuslaw24.RaftTerm", spec := "raftTerm", unfollowed := true, recurses := true, apart := false, narrowed := true }
def RaftTermUptoSaid : Prop := raftTermUptoRow.holds Tryz.pinned (OpenSpec.upto raftTermSpec)

end Rows
end Go.Proofs.YtoolcbdceijjlaaGreat
