/-
  No cell of these rows narrows 'for every input' (looked for: loops, veiled, ifaces, maps, wideKeys, modest, calm, conditions, laid).
  DERIVED. THE GIVEN ROWS OF THIS SEAT. 9 by the template 'for every input the law returns true; each argument reads behind the call as it read before'; 0 by the template 'total and deterministic' (their statements: YtclhljenjphofaaTotals.lean).
  GIVEN WITH THE SEED: the statements are not yours to turn. If you find one false, say at which input.
  Laid BY PROGRAM, IN A SANDBOX (cutbox-rows.mjs): the forced cells as the released guide's own fill.sh prints them over the translation a8838698782e7572… (all of the seat's roots in one cut). By AI agents, Wed Nov 11 2026. No macro, syntax, notation, axiom, sorry.
-/
import Derived.Test.YtclhljenjphofaaChecked
import GoSem.Claim
import GoSem.ClaimJoined
import GoSem.ClaimMapViews
import Derived.JoinedTies
import Derived.KernelRfl
namespace Go.Proofs.Ytclhljenjphofaa
/- THE CELL 'sum', in the pinned program and in every row, IS THE sha256 OF THE DUMP (.gsa) THAT YtclhljenjphofaaProg.lean LOADS. Nothing in Lean hashes anything: it is a label: what it is worth is what the hold of that sum in a sandbox is worth. -/
noncomputable def Try.pinned : Pinned := { name := "ytclhljenjphofaa", sum := "a8838698782e7572da4bf6f5abe830b0536e1dc59ec8da508a94050c5c60f956", checked := Try.checked }
namespace Rows
def none {H : Type} : Left H := { results := [], args := [] }

/-- 'nilometerlaw01.LevelMore': WHATEVER THE INPUT: true; the input reads as it did. -/
def levelMoreSpec : ChangeSpec := { name := "levelMore", fn := fun _ => fun
  | [d1, d2, d3, d4] => { results := [.lit (.bool true)], args := [d1, d2, d3, d4] }
  | _ => none }
def levelMoreRow : OpenClaim := { program := "ytclhljenjphofaa", sum := "a8838698782e7572da4bf6f5abe830b0536e1dc59ec8da508a94050c5c60f956", func := "nilometer/nilometerlaw01.LevelMore", spec := "levelMore", unfollowed := true, recurses := true, apart := false }
def LevelMoreSaid : Prop := levelMoreRow.holds Try.pinned (OpenSpec.ofChange levelMoreSpec)

/-- ITS FALSE NEIGHBOUR: 'it returns false'. Refute it at one input. -/
def levelMoreWrong : ChangeSpec := { name := "levelMore", fn := fun _ => fun
  | [d1, d2, d3, d4] => { results := [.lit (.bool false)], args := [d1, d2, d3, d4] }
  | _ => none }
def LevelMoreWrongFalsely : Prop := levelMoreRow.holds Try.pinned (OpenSpec.ofChange levelMoreWrong)

/-- 'nilometerlaw01.LevelJoined': WHATEVER THE INPUT: true; the input reads as it did. -/
def levelJoinedSpec : ChangeSpec := { name := "levelJoined", fn := fun _ => fun
  | [d1, d2, d3, d4, d5, d6] => { results := [.lit (.bool true)], args := [d1, d2, d3, d4, d5, d6] }
  | _ => none }
def levelJoinedRow : OpenClaim := { program := "ytclhljenjphofaa", sum := "a8838698782e7572da4bf6f5abe830b0536e1dc59ec8da508a94050c5c60f956", func := "nilometer/nilometerlaw01.LevelJoined", spec := "levelJoined", unfollowed := true, recurses := true, apart := false }
def LevelJoinedSaid : Prop := levelJoinedRow.holds Try.pinned (OpenSpec.ofChange levelJoinedSpec)

/-- ITS FALSE NEIGHBOUR: 'it returns false'. Refute it at one input. -/
def levelJoinedWrong : ChangeSpec := { name := "levelJoined", fn := fun _ => fun
  | [d1, d2, d3, d4, d5, d6] => { results := [.lit (.bool false)], args := [d1, d2, d3, d4, d5, d6] }
  | _ => none }
def LevelJoinedWrongFalsely : Prop := levelJoinedRow.holds Try.pinned (OpenSpec.ofChange levelJoinedWrong)

/-- 'nilometerlaw01.LevelTurned': WHATEVER THE INPUT: true; the input reads as it did. -/
def levelTurnedSpec : ChangeSpec := { name := "levelTurned", fn := fun _ => fun
  | [d1, d2, d3] => { results := [.lit (.bool true)], args := [d1, d2, d3] }
  | _ => none }
def levelTurnedRow : OpenClaim := { program := "ytclhljenjphofaa", sum := "a8838698782e7572da4bf6f5abe830b0536e1dc59ec8da508a94050c5c60f956", func := "nilometer/nilometerlaw01.LevelTurned", spec := "levelTurned", unfollowed := true, recurses := true, apart := false }
def LevelTurnedSaid : Prop := levelTurnedRow.holds Try.pinned (OpenSpec.ofChange levelTurnedSpec)

/-- ITS FALSE NEIGHBOUR: 'it returns false'. Refute it at one input. -/
def levelTurnedWrong : ChangeSpec := { name := "levelTurned", fn := fun _ => fun
  | [d1, d2, d3] => { results := [.lit (.bool false)], args := [d1, d2, d3] }
  | _ => none }
def LevelTurnedWrongFalsely : Prop := levelTurnedRow.holds Try.pinned (OpenSpec.ofChange levelTurnedWrong)

/-- 'nilometerlaw01.LevelReached': WHATEVER THE INPUT: true; the input reads as it did. -/
def levelReachedSpec : ChangeSpec := { name := "levelReached", fn := fun _ => fun
  | [d1, d2, d3, d4] => { results := [.lit (.bool true)], args := [d1, d2, d3, d4] }
  | _ => none }
def levelReachedRow : OpenClaim := { program := "ytclhljenjphofaa", sum := "a8838698782e7572da4bf6f5abe830b0536e1dc59ec8da508a94050c5c60f956", func := "nilometer/nilometerlaw01.LevelReached", spec := "levelReached", unfollowed := true, recurses := true, apart := false }
def LevelReachedSaid : Prop := levelReachedRow.holds Try.pinned (OpenSpec.ofChange levelReachedSpec)

/-- ITS FALSE NEIGHBOUR: 'it returns false'. Refute it at one input. -/
def levelReachedWrong : ChangeSpec := { name := "levelReached", fn := fun _ => fun
  | [d1, d2, d3, d4] => { results := [.lit (.bool false)], args := [d1, d2, d3, d4] }
  | _ => none }
def LevelReachedWrongFalsely : Prop := levelReachedRow.holds Try.pinned (OpenSpec.ofChange levelReachedWrong)

/-- 'nilometerlaw01.LevelMoves': WHATEVER THE INPUT: true; the input reads as it did. -/
def levelMovesSpec : ChangeSpec := { name := "levelMoves", fn := fun _ => fun
  | [d1, d2] => { results := [.lit (.bool true)], args := [d1, d2] }
  | _ => none }
def levelMovesRow : OpenClaim := { program := "ytclhljenjphofaa", sum := "a8838698782e7572da4bf6f5abe830b0536e1dc59ec8da508a94050c5c60f956", func := "nilometer/nilometerlaw01.LevelMoves", spec := "levelMoves", unfollowed := true, recurses := true, apart := false }
def LevelMovesSaid : Prop := levelMovesRow.holds Try.pinned (OpenSpec.ofChange levelMovesSpec)

/-- ITS FALSE NEIGHBOUR: 'it returns false'. Refute it at one input. -/
def levelMovesWrong : ChangeSpec := { name := "levelMoves", fn := fun _ => fun
  | [d1, d2] => { results := [.lit (.bool false)], args := [d1, d2] }
  | _ => none }
def LevelMovesWrongFalsely : Prop := levelMovesRow.holds Try.pinned (OpenSpec.ofChange levelMovesWrong)

/-- 'nilometerlaw01.LevelConvicted': WHATEVER THE INPUT: true; the input reads as it did. -/
def levelConvictedSpec : ChangeSpec := { name := "levelConvicted", fn := fun _ => fun
  | [d1, d2, d3, d4] => { results := [.lit (.bool true)], args := [d1, d2, d3, d4] }
  | _ => none }
def levelConvictedRow : OpenClaim := { program := "ytclhljenjphofaa", sum := "a8838698782e7572da4bf6f5abe830b0536e1dc59ec8da508a94050c5c60f956", func := "nilometer/nilometerlaw01.LevelConvicted", spec := "levelConvicted", unfollowed := true, recurses := true, apart := false }
def LevelConvictedSaid : Prop := levelConvictedRow.holds Try.pinned (OpenSpec.ofChange levelConvictedSpec)

/-- ITS FALSE NEIGHBOUR: 'it returns false'. Refute it at one input. -/
def levelConvictedWrong : ChangeSpec := { name := "levelConvicted", fn := fun _ => fun
  | [d1, d2, d3, d4] => { results := [.lit (.bool false)], args := [d1, d2, d3, d4] }
  | _ => none }
def LevelConvictedWrongFalsely : Prop := levelConvictedRow.holds Try.pinned (OpenSpec.ofChange levelConvictedWrong)

/-- 'nilometerlaw01.LevelTruths': WHATEVER THE INPUT: true; the input reads as it did. -/
def levelTruthsSpec : ChangeSpec := { name := "levelTruths", fn := fun _ => fun
  | [d1, d2] => { results := [.lit (.bool true)], args := [d1, d2] }
  | _ => none }
def levelTruthsRow : OpenClaim := { program := "ytclhljenjphofaa", sum := "a8838698782e7572da4bf6f5abe830b0536e1dc59ec8da508a94050c5c60f956", func := "nilometer/nilometerlaw01.LevelTruths", spec := "levelTruths", unfollowed := true, recurses := true, apart := false }
def LevelTruthsSaid : Prop := levelTruthsRow.holds Try.pinned (OpenSpec.ofChange levelTruthsSpec)

/-- ITS FALSE NEIGHBOUR: 'it returns false'. Refute it at one input. -/
def levelTruthsWrong : ChangeSpec := { name := "levelTruths", fn := fun _ => fun
  | [d1, d2] => { results := [.lit (.bool false)], args := [d1, d2] }
  | _ => none }
def LevelTruthsWrongFalsely : Prop := levelTruthsRow.holds Try.pinned (OpenSpec.ofChange levelTruthsWrong)

/-- 'nilometerlaw01.LevelWalks': WHATEVER THE INPUT: true; the input reads as it did. -/
def levelWalksSpec : ChangeSpec := { name := "levelWalks", fn := fun _ => fun
  | [d1, d2, d3, d4] => { results := [.lit (.bool true)], args := [d1, d2, d3, d4] }
  | _ => none }
def levelWalksRow : OpenClaim := { program := "ytclhljenjphofaa", sum := "a8838698782e7572da4bf6f5abe830b0536e1dc59ec8da508a94050c5c60f956", func := "nilometer/nilometerlaw01.LevelWalks", spec := "levelWalks", unfollowed := true, recurses := true, apart := false }
def LevelWalksSaid : Prop := levelWalksRow.holds Try.pinned (OpenSpec.ofChange levelWalksSpec)

/-- ITS FALSE NEIGHBOUR: 'it returns false'. Refute it at one input. -/
def levelWalksWrong : ChangeSpec := { name := "levelWalks", fn := fun _ => fun
  | [d1, d2, d3, d4] => { results := [.lit (.bool false)], args := [d1, d2, d3, d4] }
  | _ => none }
def LevelWalksWrongFalsely : Prop := levelWalksRow.holds Try.pinned (OpenSpec.ofChange levelWalksWrong)

/-- 'nilometerlaw01.LevelCloses': WHATEVER THE INPUT: true; the input reads as it did. -/
def levelClosesSpec : ChangeSpec := { name := "levelCloses", fn := fun _ => fun
  | [d1, d2, d3, d4, d5] => { results := [.lit (.bool true)], args := [d1, d2, d3, d4, d5] }
  | _ => none }
def levelClosesRow : OpenClaim := { program := "ytclhljenjphofaa", sum := "a8838698782e7572da4bf6f5abe830b0536e1dc59ec8da508a94050c5c60f956", func := "nilometer/nilometerlaw01.LevelCloses", spec := "levelCloses", unfollowed := true, recurses := true, apart := false }
def LevelClosesSaid : Prop := levelClosesRow.holds Try.pinned (OpenSpec.ofChange levelClosesSpec)

/-- ITS FALSE NEIGHBOUR: 'it returns false'. Refute it at one input. -/
def levelClosesWrong : ChangeSpec := { name := "levelCloses", fn := fun _ => fun
  | [d1, d2, d3, d4, d5] => { results := [.lit (.bool false)], args := [d1, d2, d3, d4, d5] }
  | _ => none }
def LevelClosesWrongFalsely : Prop := levelClosesRow.holds Try.pinned (OpenSpec.ofChange levelClosesWrong)

/- THE SECOND FORM. 'bulk': how many values and letters a reading holds, each counted each time it is reached (what is shared counts as often as it is met; a slice's spare places count too). A statement '..UptoSaid' is the law's where the arguments, and the package variables that the reading takes, are together of bulk at most 1048576: NARROWER than '..Said'. Prove '..Said' where nothing that the law and all that it calls make is longer than what came in: it says more and counts as full. Else prove '..UptoSaid'. A law counts once. -/
mutual
def uptoBulk {H : Type} : DataW H → Nat
  | .lit (.string bytes) => bytes.length + 1
  | .lit _ => 1
  | .nil => 1
  | .ptr d => uptoBulk d + 1
  | .slice elems spare => uptoBulkAll elems + uptoBulkAll spare + 1
  | .agg parts => uptoBulkAll parts + 1
  | .iface _ d => uptoBulk d + 1
  | .map entries => uptoBulkEntries entries + 1
  | .held _ => 1
def uptoBulkAll {H : Type} : List (DataW H) → Nat
  | [] => 0
  | d :: r => uptoBulk d + uptoBulkAll r
def uptoBulkEntries {H : Type} : List (Lit × DataW H) → Nat
  | [] => 0
  | x :: r => uptoBulkEntry x + uptoBulkEntries r
def uptoBulkEntry {H : Type} : Lit × DataW H → Nat
  | (.string bytes, d) => bytes.length + uptoBulk d + 1
  | (_, d) => uptoBulk d + 1
 end
def uptoSmall : (H : Type) → List (DataW H) → Bool := fun _ ds => decide (uptoBulkAll ds ≤ 1048576)
def OpenSpec.upto (s : _root_.Go.ChangeSpec) : _root_.Go.OpenSpec := { _root_.Go.OpenSpec.ofChange s with cond := some uptoSmall }

/-- 'nilometerlaw01.LevelMore', WHERE WHAT IT READS IS OF BULK AT MOST 1048576: true; the input reads as it did. -/
def levelMoreUptoRow : OpenClaim := { program := "ytclhljenjphofaa", sum := "a8838698782e7572da4bf6f5abe830b0536e1dc59ec8da508a94050c5c60f956", func := "nilometer/nilometerlaw01.LevelMore", spec := "levelMore", unfollowed := true, recurses := true, apart := false, narrowed := true }
def LevelMoreUptoSaid : Prop := levelMoreUptoRow.holds Try.pinned (OpenSpec.upto levelMoreSpec)

/-- 'nilometerlaw01.LevelJoined', WHERE WHAT IT READS IS OF BULK AT MOST 1048576: true; the input reads as it did. -/
def levelJoinedUptoRow : OpenClaim := { program := "ytclhljenjphofaa", sum := "a8838698782e7572da4bf6f5abe830b0536e1dc59ec8da508a94050c5c60f956", func := "nilometer/nilometerlaw01.LevelJoined", spec := "levelJoined", unfollowed := true, recurses := true, apart := false, narrowed := true }
def LevelJoinedUptoSaid : Prop := levelJoinedUptoRow.holds Try.pinned (OpenSpec.upto levelJoinedSpec)

/-- 'nilometerlaw01.LevelTurned', WHERE WHAT IT READS IS OF BULK AT MOST 1048576: true; the input reads as it did. -/
def levelTurnedUptoRow : OpenClaim := { program := "ytclhljenjphofaa", sum := "a8838698782e7572da4bf6f5abe830b0536e1dc59ec8da508a94050c5c60f956", func := "nilometer/nilometerlaw01.LevelTurned", spec := "levelTurned", unfollowed := true, recurses := true, apart := false, narrowed := true }
def LevelTurnedUptoSaid : Prop := levelTurnedUptoRow.holds Try.pinned (OpenSpec.upto levelTurnedSpec)

/-- 'nilometerlaw01.LevelReached', WHERE WHAT IT READS IS OF BULK AT MOST 1048576: true; the input reads as it did. -/
def levelReachedUptoRow : OpenClaim := { program := "ytclhljenjphofaa", sum := "a8838698782e7572da4bf6f5abe830b0536e1dc59ec8da508a94050c5c60f956", func := "nilometer/nilometerlaw01.LevelReached", spec := "levelReached", unfollowed := true, recurses := true, apart := false, narrowed := true }
def LevelReachedUptoSaid : Prop := levelReachedUptoRow.holds Try.pinned (OpenSpec.upto levelReachedSpec)

/-- 'nilometerlaw01.LevelMoves', WHERE WHAT IT READS IS OF BULK AT MOST 1048576: true; the input reads as it did. -/
def levelMovesUptoRow : OpenClaim := { program := "ytclhljenjphofaa", sum := "a8838698782e7572da4bf6f5abe830b0536e1dc59ec8da508a94050c5c60f956", func := "nilometer/nilometerlaw01.LevelMoves", spec := "levelMoves", unfollowed := true, recurses := true, apart := false, narrowed := true }
def LevelMovesUptoSaid : Prop := levelMovesUptoRow.holds Try.pinned (OpenSpec.upto levelMovesSpec)

/-- 'nilometerlaw01.LevelConvicted', WHERE WHAT IT READS IS OF BULK AT MOST 1048576: true; the input reads as it did. -/
def levelConvictedUptoRow : OpenClaim := { program := "ytclhljenjphofaa", sum := "a8838698782e7572da4bf6f5abe830b0536e1dc59ec8da508a94050c5c60f956", func := "nilometer/nilometerlaw01.LevelConvicted", spec := "levelConvicted", unfollowed := true, recurses := true, apart := false, narrowed := true }
def LevelConvictedUptoSaid : Prop := levelConvictedUptoRow.holds Try.pinned (OpenSpec.upto levelConvictedSpec)

/-- 'nilometerlaw01.LevelTruths', WHERE WHAT IT READS IS OF BULK AT MOST 1048576: true; the input reads as it did. -/
def levelTruthsUptoRow : OpenClaim := { program := "ytclhljenjphofaa", sum := "a8838698782e7572da4bf6f5abe830b0536e1dc59ec8da508a94050c5c60f956", func := "nilometer/nilometerlaw01.LevelTruths", spec := "levelTruths", unfollowed := true, recurses := true, apart := false, narrowed := true }
def LevelTruthsUptoSaid : Prop := levelTruthsUptoRow.holds Try.pinned (OpenSpec.upto levelTruthsSpec)

/-- 'nilometerlaw01.LevelWalks', WHERE WHAT IT READS IS OF BULK AT MOST 1048576: true; the input reads as it did. -/
def levelWalksUptoRow : OpenClaim := { program := "ytclhljenjphofaa", sum := "a8838698782e7572da4bf6f5abe830b0536e1dc59ec8da508a94050c5c60f956", func := "nilometer/nilometerlaw01.LevelWalks", spec := "levelWalks", unfollowed := true, recurses := true, apart := false, narrowed := true }
def LevelWalksUptoSaid : Prop := levelWalksUptoRow.holds Try.pinned (OpenSpec.upto levelWalksSpec)

/-- 'nilometerlaw01.LevelCloses', WHERE WHAT IT READS IS OF BULK AT MOST 1048576: true; the input reads as it did. -/
def levelClosesUptoRow : OpenClaim := { program := "ytclhljenjphofaa", sum := "a8838698782e7572da4bf6f5abe830b0536e1dc59ec8da508a94050c5c60f956", func := "nilometer/nilometerlaw01.LevelCloses", spec := "levelCloses", unfollowed := true, recurses := true, apart := false, narrowed := true }
def LevelClosesUptoSaid : Prop := levelClosesUptoRow.holds Try.pinned (OpenSpec.upto levelClosesSpec)

end Rows
end Go.Proofs.Ytclhljenjphofaa
