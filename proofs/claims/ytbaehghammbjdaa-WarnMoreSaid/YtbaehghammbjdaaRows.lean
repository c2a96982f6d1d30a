/-
  No cell of these rows narrows 'for every input' (looked for: loops, veiled, ifaces, maps, wideKeys, modest, calm, conditions, laid).
  DERIVED. THE GIVEN ROWS OF THIS SEAT. 5 by the template 'for every input the law returns true; each argument reads behind the call as it read before'; 0 by the template 'total and deterministic' (their statements: YtbaehghammbjdaaTotals.lean).
  GIVEN WITH THE SEED: the statements are not yours to turn. If you find one false, say at which input.
  Laid BY PROGRAM, IN A SANDBOX (cutbox-rows.mjs): the forced cells as the released guide's own fill.sh prints them over the translation 7d7d71540314c161… (all of the seat's roots in one cut). By AI agents, Wed Nov 11 2026. No macro, syntax, notation, axiom, sorry.
-/
import Derived.Test.YtbaehghammbjdaaChecked
import GoSem.Claim
import GoSem.ClaimJoined
import GoSem.ClaimMapViews
import Derived.JoinedTies
import Derived.KernelRfl
namespace Go.Proofs.Ytbaehghammbjdaa
/- THE CELL 'sum', in the pinned program and in every row, IS THE sha256 OF THE DUMP (.gsa) THAT YtbaehghammbjdaaProg.lean LOADS. Nothing in Lean hashes anything: it is a label: what it is worth is what the hold of that sum in a sandbox is worth. -/
noncomputable def Try.pinned : Pinned := { name := "ytbaehghammbjdaa", sum := "7d7d71540314c161b91e3578d6adcc0355f126904e74fd23a68f14b00a719347", checked := Try.checked }
namespace Rows
def none {H : Type} : Left H := { results := [], args := [] }

/-- 'nilometerlaw12.WarnJudged': WHATEVER THE INPUT: true; the input reads as it did. -/
def warnJudgedSpec : ChangeSpec := { name := "warnJudged", fn := fun _ => fun
  | [d1, d2] => { results := [.lit (.bool true)], args := [d1, d2] }
  | _ => none }
def warnJudgedRow : OpenClaim := { program := "ytbaehghammbjdaa", sum := "7d7d71540314c161b91e3578d6adcc0355f126904e74fd23a68f14b00a719347", func := "nilometer/nilometerlaw12.WarnJudged", spec := "warnJudged", unfollowed := true, recurses := true, plainKeys := false, apart := false }
def WarnJudgedSaid : Prop := warnJudgedRow.holds Try.pinned (OpenSpec.ofChange warnJudgedSpec)

/-- ITS FALSE NEIGHBOUR: 'it returns false'. Refute it at one input. -/
def warnJudgedWrong : ChangeSpec := { name := "warnJudged", fn := fun _ => fun
  | [d1, d2] => { results := [.lit (.bool false)], args := [d1, d2] }
  | _ => none }
def WarnJudgedWrongFalsely : Prop := warnJudgedRow.holds Try.pinned (OpenSpec.ofChange warnJudgedWrong)

/-- 'nilometerlaw12.WarnPassed': WHATEVER THE INPUT: true; the input reads as it did. -/
def warnPassedSpec : ChangeSpec := { name := "warnPassed", fn := fun _ => fun
  | [d1, d2, d3, d4] => { results := [.lit (.bool true)], args := [d1, d2, d3, d4] }
  | _ => none }
def warnPassedRow : OpenClaim := { program := "ytbaehghammbjdaa", sum := "7d7d71540314c161b91e3578d6adcc0355f126904e74fd23a68f14b00a719347", func := "nilometer/nilometerlaw12.WarnPassed", spec := "warnPassed", unfollowed := true, recurses := true, plainKeys := false, apart := false }
def WarnPassedSaid : Prop := warnPassedRow.holds Try.pinned (OpenSpec.ofChange warnPassedSpec)

/-- ITS FALSE NEIGHBOUR: 'it returns false'. Refute it at one input. -/
def warnPassedWrong : ChangeSpec := { name := "warnPassed", fn := fun _ => fun
  | [d1, d2, d3, d4] => { results := [.lit (.bool false)], args := [d1, d2, d3, d4] }
  | _ => none }
def WarnPassedWrongFalsely : Prop := warnPassedRow.holds Try.pinned (OpenSpec.ofChange warnPassedWrong)

/-- 'nilometerlaw12.WarnMore': WHATEVER THE INPUT: true; the input reads as it did. -/
def warnMoreSpec : ChangeSpec := { name := "warnMore", fn := fun _ => fun
  | [d1, d2] => { results := [.lit (.bool true)], args := [d1, d2] }
  | _ => none }
def warnMoreRow : OpenClaim := { program := "ytbaehghammbjdaa", sum := "7d7d71540314c161b91e3578d6adcc0355f126904e74fd23a68f14b00a719347", func := "nilometer/nilometerlaw12.WarnMore", spec := "warnMore", unfollowed := true, recurses := true, plainKeys := false, apart := false }
def WarnMoreSaid : Prop := warnMoreRow.holds Try.pinned (OpenSpec.ofChange warnMoreSpec)

/-- ITS FALSE NEIGHBOUR: 'it returns false'. Refute it at one input. -/
def warnMoreWrong : ChangeSpec := { name := "warnMore", fn := fun _ => fun
  | [d1, d2] => { results := [.lit (.bool false)], args := [d1, d2] }
  | _ => none }
def WarnMoreWrongFalsely : Prop := warnMoreRow.holds Try.pinned (OpenSpec.ofChange warnMoreWrong)

/-- 'nilometerlaw12.WarnInTime': WHATEVER THE INPUT: true; the input reads as it did. -/
def warnInTimeSpec : ChangeSpec := { name := "warnInTime", fn := fun _ => fun
  | [d1, d2] => { results := [.lit (.bool true)], args := [d1, d2] }
  | _ => none }
def warnInTimeRow : OpenClaim := { program := "ytbaehghammbjdaa", sum := "7d7d71540314c161b91e3578d6adcc0355f126904e74fd23a68f14b00a719347", func := "nilometer/nilometerlaw12.WarnInTime", spec := "warnInTime", unfollowed := true, recurses := true, plainKeys := false, apart := false }
def WarnInTimeSaid : Prop := warnInTimeRow.holds Try.pinned (OpenSpec.ofChange warnInTimeSpec)

/-- ITS FALSE NEIGHBOUR: 'it returns false'. Refute it at one input. -/
def warnInTimeWrong : ChangeSpec := { name := "warnInTime", fn := fun _ => fun
  | [d1, d2] => { results := [.lit (.bool false)], args := [d1, d2] }
  | _ => none }
def WarnInTimeWrongFalsely : Prop := warnInTimeRow.holds Try.pinned (OpenSpec.ofChange warnInTimeWrong)

/-- 'nilometerlaw12.WarnFewest': WHATEVER THE INPUT: true; the input reads as it did. -/
def warnFewestSpec : ChangeSpec := { name := "warnFewest", fn := fun _ => fun
  | [d1, d2] => { results := [.lit (.bool true)], args := [d1, d2] }
  | _ => none }
def warnFewestRow : OpenClaim := { program := "ytbaehghammbjdaa", sum := "7d7d71540314c161b91e3578d6adcc0355f126904e74fd23a68f14b00a719347", func := "nilometer/nilometerlaw12.WarnFewest", spec := "warnFewest", unfollowed := true, recurses := true, plainKeys := false, apart := false }
def WarnFewestSaid : Prop := warnFewestRow.holds Try.pinned (OpenSpec.ofChange warnFewestSpec)

/-- ITS FALSE NEIGHBOUR: 'it returns false'. Refute it at one input. -/
def warnFewestWrong : ChangeSpec := { name := "warnFewest", fn := fun _ => fun
  | [d1, d2] => { results := [.lit (.bool false)], args := [d1, d2] }
  | _ => none }
def WarnFewestWrongFalsely : Prop := warnFewestRow.holds Try.pinned (OpenSpec.ofChange warnFewestWrong)

/- THE SECOND FORM. 'bulk': how many values and letters a reading holds, each counted each time it is reached (what is shared counts as often as it is met; a slice's spare places count too). A statement '..UptoSaid' is the law's where the arguments, and the package variables that the reading takes, are together of bulk at most 1048576: NARROWER than '..Said'. Prove '..Said' where nothing that the law and all that it calls make is longer than what came in: it says more and counts as full. Else prove '..UptoSaid'. A law counts once. -/
mutual
def uptoBulk {H : Type} : DataW H → Nat
  | .lit (.string bytes) => bytes.length + 1
  | .lit _ => 1
  | .nil => 1
  | .ptr d => uptoBulk d + 1
  | .slice elems spare => uptoBulkAll elems + uptoBulkAll spare + 1
  | .agg parts => uptoBulkAll parts + 1
  | .iface _ d => uptoBulk d + 1
  | .map entries => uptoBulkEntries entries + 1
  | .held _ => 1
def uptoBulkAll {H : Type} : List (DataW H) → Nat
  | [] => 0
  | d :: r => uptoBulk d + uptoBulkAll r
def uptoBulkEntries {H : Type} : List (Lit × DataW H) → Nat
  | [] => 0
  | x :: r => uptoBulkEntry x + uptoBulkEntries r
def uptoBulkEntry {H : Type} : Lit × DataW H → Nat
  | (.string bytes, d) => bytes.length + uptoBulk d + 1
  | (_, d) => uptoBulk d + 1
 end
def uptoSmall : (H : Type) → List (DataW H) → Bool := fun _ ds => decide (uptoBulkAll ds ≤ 1048576)
def OpenSpec.upto (s : _root_.Go.ChangeSpec) : _root_.Go.OpenSpec := { _root_.Go.OpenSpec.ofChange s with cond := some uptoSmall }

/-- 'nilometerlaw12.WarnJudged', WHERE WHAT IT READS IS OF BULK AT MOST 1048576: true; the input reads as it did. -/
def warnJudgedUptoRow : OpenClaim := { program := "ytbaehghammbjdaa", sum := "7d7d71540314c161b91e3578d6adcc0355f126904e74fd23a68f14b00a719347", func := "nilometer/nilometerlaw12.WarnJudged", spec := "warnJudged", unfollowed := true, recurses := true, plainKeys := false, apart := false, narrowed := true }
def WarnJudgedUptoSaid : Prop := warnJudgedUptoRow.holds Try.pinned (OpenSpec.upto warnJudgedSpec)

/-- 'nilometerlaw12.WarnPassed', WHERE WHAT IT READS IS OF BULK AT MOST 1048576: true; the input reads as it did. -/
def warnPassedUptoRow : OpenClaim := { program := "ytbaehghammbjdaa", sum := "7d7d71540314c161b91e3578d6adcc0355f126904e74fd23a68f14b00a719347", func := "nilometer/nilometerlaw12.WarnPassed", spec := "warnPassed", unfollowed := true, recurses := true, plainKeys := false, apart := false, narrowed := true }
def WarnPassedUptoSaid : Prop := warnPassedUptoRow.holds Try.pinned (OpenSpec.upto warnPassedSpec)

/-- 'nilometerlaw12.WarnMore', WHERE WHAT IT READS IS OF BULK AT MOST 1048576: true; the input reads as it did. -/
def warnMoreUptoRow : OpenClaim := { program := "ytbaehghammbjdaa", sum := "7d7d71540314c161b91e3578d6adcc0355f126904e74fd23a68f14b00a719347", func := "nilometer/nilometerlaw12.WarnMore", spec := "warnMore", unfollowed := true, recurses := true, plainKeys := false, apart := false, narrowed := true }
def WarnMoreUptoSaid : Prop := warnMoreUptoRow.holds Try.pinned (OpenSpec.upto warnMoreSpec)

/-- 'nilometerlaw12.WarnInTime', WHERE WHAT IT READS IS OF BULK AT MOST 1048576: true; the input reads as it did. -/
def warnInTimeUptoRow : OpenClaim := { program := "ytbaehghammbjdaa", sum := "7d7d71540314c161b91e3578d6adcc0355f126904e74fd23a68f14b00a719347", func := "nilometer/nilometerlaw12.WarnInTime", spec := "warnInTime", unfollowed := true, recurses := true, plainKeys := false, apart := false, narrowed := true }
def WarnInTimeUptoSaid : Prop := warnInTimeUptoRow.holds Try.pinned (OpenSpec.upto warnInTimeSpec)

/-- 'nilometerlaw12.WarnFewest', WHERE WHAT IT READS IS OF BULK AT MOST 1048576: true; the input reads as it did. -/
def warnFewestUptoRow : OpenClaim := { program := "ytbaehghammbjdaa", sum := "7d7d71540314c161b91e3578d6adcc0355f126904e74fd23a68f14b00a719347", func := "nilometer/nilometerlaw12.WarnFewest", spec := "warnFewest", unfollowed := true, recurses := true, plainKeys := false, apart := false, narrowed := true }
def WarnFewestUptoSaid : Prop := warnFewestUptoRow.holds Try.pinned (OpenSpec.upto warnFewestSpec)

end Rows
end Go.Proofs.Ytbaehghammbjdaa
