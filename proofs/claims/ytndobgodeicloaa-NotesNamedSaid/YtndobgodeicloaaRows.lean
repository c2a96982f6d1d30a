/-
  No cell of these rows narrows 'for every input' (looked for: loops, veiled, ifaces, maps, wideKeys, modest, calm, conditions, laid).
  DERIVED. THE GIVEN ROWS OF THIS SEAT. 13 by the template 'for every input the law returns true; each argument reads behind the call as it read before'; 0 by the template 'total and deterministic' (their statements: YtndobgodeicloaaTotals.lean).
  GIVEN WITH THE SEED: the statements are not yours to turn. If you find one false, say at which input.
  Laid BY PROGRAM, IN A SANDBOX (cutbox-rows.mjs): the forced cells as the released guide's own fill.sh prints them over the translation e600c4c8d7a8e177… (all of the seat's roots in one cut). By AI agents, Wed Nov 11 2026. No macro, syntax, notation, axiom, sorry.
-/
import Derived.Test.YtndobgodeicloaaChecked
import GoSem.Claim
import GoSem.ClaimJoined
import GoSem.ClaimMapViews
import Derived.JoinedTies
import Derived.KernelRfl
namespace Go.Proofs.Ytndobgodeicloaa
/- THE CELL 'sum', in the pinned program and in every row, IS THE sha256 OF THE DUMP (.gsa) THAT YtndobgodeicloaaProg.lean LOADS. Nothing in Lean hashes anything: it is a label: what it is worth is what the hold of that sum in a sandbox is worth. -/
noncomputable def Try.pinned : Pinned := { name := "ytndobgodeicloaa", sum := "e600c4c8d7a8e1774c7bc948666ebfb7c61185c160774ab1304df7a899e9dcd0", checked := Try.checked }
namespace Rows
def none {H : Type} : Left H := { results := [], args := [] }

/-- 'nilometerlaw13.NotesValues': WHATEVER THE INPUT: true; the input reads as it did. -/
def notesValuesSpec : ChangeSpec := { name := "notesValues", fn := fun _ => fun
  | [d1, d2, d3] => { results := [.lit (.bool true)], args := [d1, d2, d3] }
  | _ => none }
def notesValuesRow : OpenClaim := { program := "ytndobgodeicloaa", sum := "e600c4c8d7a8e1774c7bc948666ebfb7c61185c160774ab1304df7a899e9dcd0", func := "nilometer/nilometerlaw13.NotesValues", spec := "notesValues", unfollowed := true, recurses := true, plainKeys := false, apart := false }
def NotesValuesSaid : Prop := notesValuesRow.holds Try.pinned (OpenSpec.ofChange notesValuesSpec)

/-- ITS FALSE NEIGHBOUR: 'it returns false'. Refute it at one input. -/
def notesValuesWrong : ChangeSpec := { name := "notesValues", fn := fun _ => fun
  | [d1, d2, d3] => { results := [.lit (.bool false)], args := [d1, d2, d3] }
  | _ => none }
def NotesValuesWrongFalsely : Prop := notesValuesRow.holds Try.pinned (OpenSpec.ofChange notesValuesWrong)

/-- 'nilometerlaw13.NotesStale': WHATEVER THE INPUT: true; the input reads as it did. -/
def notesStaleSpec : ChangeSpec := { name := "notesStale", fn := fun _ => fun
  | [d1, d2, d3] => { results := [.lit (.bool true)], args := [d1, d2, d3] }
  | _ => none }
def notesStaleRow : OpenClaim := { program := "ytndobgodeicloaa", sum := "e600c4c8d7a8e1774c7bc948666ebfb7c61185c160774ab1304df7a899e9dcd0", func := "nilometer/nilometerlaw13.NotesStale", spec := "notesStale", unfollowed := true, recurses := true, plainKeys := false, apart := false }
def NotesStaleSaid : Prop := notesStaleRow.holds Try.pinned (OpenSpec.ofChange notesStaleSpec)

/-- ITS FALSE NEIGHBOUR: 'it returns false'. Refute it at one input. -/
def notesStaleWrong : ChangeSpec := { name := "notesStale", fn := fun _ => fun
  | [d1, d2, d3] => { results := [.lit (.bool false)], args := [d1, d2, d3] }
  | _ => none }
def NotesStaleWrongFalsely : Prop := notesStaleRow.holds Try.pinned (OpenSpec.ofChange notesStaleWrong)

/-- 'nilometerlaw13.NotesHeld': WHATEVER THE INPUT: true; the input reads as it did. -/
def notesHeldSpec : ChangeSpec := { name := "notesHeld", fn := fun _ => fun
  | [d1, d2, d3] => { results := [.lit (.bool true)], args := [d1, d2, d3] }
  | _ => none }
def notesHeldRow : OpenClaim := { program := "ytndobgodeicloaa", sum := "e600c4c8d7a8e1774c7bc948666ebfb7c61185c160774ab1304df7a899e9dcd0", func := "nilometer/nilometerlaw13.NotesHeld", spec := "notesHeld", unfollowed := true, recurses := true, plainKeys := false, apart := false }
def NotesHeldSaid : Prop := notesHeldRow.holds Try.pinned (OpenSpec.ofChange notesHeldSpec)

/-- ITS FALSE NEIGHBOUR: 'it returns false'. Refute it at one input. -/
def notesHeldWrong : ChangeSpec := { name := "notesHeld", fn := fun _ => fun
  | [d1, d2, d3] => { results := [.lit (.bool false)], args := [d1, d2, d3] }
  | _ => none }
def NotesHeldWrongFalsely : Prop := notesHeldRow.holds Try.pinned (OpenSpec.ofChange notesHeldWrong)

/-- 'nilometerlaw13.NotesFenced': WHATEVER THE INPUT: true; the input reads as it did. -/
def notesFencedSpec : ChangeSpec := { name := "notesFenced", fn := fun _ => fun
  | [d1, d2] => { results := [.lit (.bool true)], args := [d1, d2] }
  | _ => none }
def notesFencedRow : OpenClaim := { program := "ytndobgodeicloaa", sum := "e600c4c8d7a8e1774c7bc948666ebfb7c61185c160774ab1304df7a899e9dcd0", func := "nilometer/nilometerlaw13.NotesFenced", spec := "notesFenced", unfollowed := true, recurses := true, plainKeys := false, apart := false }
def NotesFencedSaid : Prop := notesFencedRow.holds Try.pinned (OpenSpec.ofChange notesFencedSpec)

/-- ITS FALSE NEIGHBOUR: 'it returns false'. Refute it at one input. -/
def notesFencedWrong : ChangeSpec := { name := "notesFenced", fn := fun _ => fun
  | [d1, d2] => { results := [.lit (.bool false)], args := [d1, d2] }
  | _ => none }
def NotesFencedWrongFalsely : Prop := notesFencedRow.holds Try.pinned (OpenSpec.ofChange notesFencedWrong)

/-- 'nilometerlaw13.NotesReady': WHATEVER THE INPUT: true; the input reads as it did. -/
def notesReadySpec : ChangeSpec := { name := "notesReady", fn := fun _ => fun
  | [d1, d2, d3, d4] => { results := [.lit (.bool true)], args := [d1, d2, d3, d4] }
  | _ => none }
def notesReadyRow : OpenClaim := { program := "ytndobgodeicloaa", sum := "e600c4c8d7a8e1774c7bc948666ebfb7c61185c160774ab1304df7a899e9dcd0", func := "nilometer/nilometerlaw13.NotesReady", spec := "notesReady", unfollowed := true, recurses := true, plainKeys := false, apart := false }
def NotesReadySaid : Prop := notesReadyRow.holds Try.pinned (OpenSpec.ofChange notesReadySpec)

/-- ITS FALSE NEIGHBOUR: 'it returns false'. Refute it at one input. -/
def notesReadyWrong : ChangeSpec := { name := "notesReady", fn := fun _ => fun
  | [d1, d2, d3, d4] => { results := [.lit (.bool false)], args := [d1, d2, d3, d4] }
  | _ => none }
def NotesReadyWrongFalsely : Prop := notesReadyRow.holds Try.pinned (OpenSpec.ofChange notesReadyWrong)

/-- 'nilometerlaw13.NotesOnce': WHATEVER THE INPUT: true; the input reads as it did. -/
def notesOnceSpec : ChangeSpec := { name := "notesOnce", fn := fun _ => fun
  | [d1, d2, d3] => { results := [.lit (.bool true)], args := [d1, d2, d3] }
  | _ => none }
def notesOnceRow : OpenClaim := { program := "ytndobgodeicloaa", sum := "e600c4c8d7a8e1774c7bc948666ebfb7c61185c160774ab1304df7a899e9dcd0", func := "nilometer/nilometerlaw13.NotesOnce", spec := "notesOnce", unfollowed := true, recurses := true, plainKeys := false, apart := false }
def NotesOnceSaid : Prop := notesOnceRow.holds Try.pinned (OpenSpec.ofChange notesOnceSpec)

/-- ITS FALSE NEIGHBOUR: 'it returns false'. Refute it at one input. -/
def notesOnceWrong : ChangeSpec := { name := "notesOnce", fn := fun _ => fun
  | [d1, d2, d3] => { results := [.lit (.bool false)], args := [d1, d2, d3] }
  | _ => none }
def NotesOnceWrongFalsely : Prop := notesOnceRow.holds Try.pinned (OpenSpec.ofChange notesOnceWrong)

/-- 'nilometerlaw13.NotesWorked': WHATEVER THE INPUT: true; the input reads as it did. -/
def notesWorkedSpec : ChangeSpec := { name := "notesWorked", fn := fun _ => fun
  | [d1, d2] => { results := [.lit (.bool true)], args := [d1, d2] }
  | _ => none }
def notesWorkedRow : OpenClaim := { program := "ytndobgodeicloaa", sum := "e600c4c8d7a8e1774c7bc948666ebfb7c61185c160774ab1304df7a899e9dcd0", func := "nilometer/nilometerlaw13.NotesWorked", spec := "notesWorked", unfollowed := true, recurses := true, plainKeys := false, apart := false }
def NotesWorkedSaid : Prop := notesWorkedRow.holds Try.pinned (OpenSpec.ofChange notesWorkedSpec)

/-- ITS FALSE NEIGHBOUR: 'it returns false'. Refute it at one input. -/
def notesWorkedWrong : ChangeSpec := { name := "notesWorked", fn := fun _ => fun
  | [d1, d2] => { results := [.lit (.bool false)], args := [d1, d2] }
  | _ => none }
def NotesWorkedWrongFalsely : Prop := notesWorkedRow.holds Try.pinned (OpenSpec.ofChange notesWorkedWrong)

/-- 'nilometerlaw13.NotesFreeze': WHATEVER THE INPUT: true; the input reads as it did. -/
def notesFreezeSpec : ChangeSpec := { name := "notesFreeze", fn := fun _ => fun
  | [d1, d2, d3, d4, d5] => { results := [.lit (.bool true)], args := [d1, d2, d3, d4, d5] }
  | _ => none }
def notesFreezeRow : OpenClaim := { program := "ytndobgodeicloaa", sum := "e600c4c8d7a8e1774c7bc948666ebfb7c61185c160774ab1304df7a899e9dcd0", func := "nilometer/nilometerlaw13.NotesFreeze", spec := "notesFreeze", unfollowed := true, recurses := true, plainKeys := false, apart := false }
def NotesFreezeSaid : Prop := notesFreezeRow.holds Try.pinned (OpenSpec.ofChange notesFreezeSpec)

/-- ITS FALSE NEIGHBOUR: 'it returns false'. Refute it at one input. -/
def notesFreezeWrong : ChangeSpec := { name := "notesFreeze", fn := fun _ => fun
  | [d1, d2, d3, d4, d5] => { results := [.lit (.bool false)], args := [d1, d2, d3, d4, d5] }
  | _ => none }
def NotesFreezeWrongFalsely : Prop := notesFreezeRow.holds Try.pinned (OpenSpec.ofChange notesFreezeWrong)

/-- 'nilometerlaw13.NotesCircled': WHATEVER THE INPUT: true; the input reads as it did. -/
def notesCircledSpec : ChangeSpec := { name := "notesCircled", fn := fun _ => fun
  | [d1, d2, d3] => { results := [.lit (.bool true)], args := [d1, d2, d3] }
  | _ => none }
def notesCircledRow : OpenClaim := { program := "ytndobgodeicloaa", sum := "e600c4c8d7a8e1774c7bc948666ebfb7c61185c160774ab1304df7a899e9dcd0", func := "nilometer/nilometerlaw13.NotesCircled", spec := "notesCircled", unfollowed := true, recurses := true, plainKeys := false, apart := false }
def NotesCircledSaid : Prop := notesCircledRow.holds Try.pinned (OpenSpec.ofChange notesCircledSpec)

/-- ITS FALSE NEIGHBOUR: 'it returns false'. Refute it at one input. -/
def notesCircledWrong : ChangeSpec := { name := "notesCircled", fn := fun _ => fun
  | [d1, d2, d3] => { results := [.lit (.bool false)], args := [d1, d2, d3] }
  | _ => none }
def NotesCircledWrongFalsely : Prop := notesCircledRow.holds Try.pinned (OpenSpec.ofChange notesCircledWrong)

/-- 'nilometerlaw13.NotesFrozen': WHATEVER THE INPUT: true; the input reads as it did. -/
def notesFrozenSpec : ChangeSpec := { name := "notesFrozen", fn := fun _ => fun
  | [d1, d2, d3] => { results := [.lit (.bool true)], args := [d1, d2, d3] }
  | _ => none }
def notesFrozenRow : OpenClaim := { program := "ytndobgodeicloaa", sum := "e600c4c8d7a8e1774c7bc948666ebfb7c61185c160774ab1304df7a899e9dcd0", func := "nilometer/nilometerlaw13.NotesFrozen", spec := "notesFrozen", unfollowed := true, recurses := true, plainKeys := false, apart := false }
def NotesFrozenSaid : Prop := notesFrozenRow.holds Try.pinned (OpenSpec.ofChange notesFrozenSpec)

/-- ITS FALSE NEIGHBOUR: 'it returns false'. Refute it at one input. -/
def notesFrozenWrong : ChangeSpec := { name := "notesFrozen", fn := fun _ => fun
  | [d1, d2, d3] => { results := [.lit (.bool false)], args := [d1, d2, d3] }
  | _ => none }
def NotesFrozenWrongFalsely : Prop := notesFrozenRow.holds Try.pinned (OpenSpec.ofChange notesFrozenWrong)

/-- 'nilometerlaw13.NotesWorks': WHATEVER THE INPUT: true; the input reads as it did. -/
def notesWorksSpec : ChangeSpec := { name := "notesWorks", fn := fun _ => fun
  | [d1, d2, d3, d4] => { results := [.lit (.bool true)], args := [d1, d2, d3, d4] }
  | _ => none }
def notesWorksRow : OpenClaim := { program := "ytndobgodeicloaa", sum := "e600c4c8d7a8e1774c7bc948666ebfb7c61185c160774ab1304df7a899e9dcd0", func := "nilometer/nilometerlaw13.NotesWorks", spec := "notesWorks", unfollowed := true, recurses := true, plainKeys := false, apart := false }
def NotesWorksSaid : Prop := notesWorksRow.holds Try.pinned (OpenSpec.ofChange notesWorksSpec)

/-- ITS FALSE NEIGHBOUR: 'it returns false'. Refute it at one input. -/
def notesWorksWrong : ChangeSpec := { name := "notesWorks", fn := fun _ => fun
  | [d1, d2, d3, d4] => { results := [.lit (.bool false)], args := [d1, d2, d3, d4] }
  | _ => none }
def NotesWorksWrongFalsely : Prop := notesWorksRow.holds Try.pinned (OpenSpec.ofChange notesWorksWrong)

/-- 'nilometerlaw13.NotesLevelled': WHATEVER THE INPUT: true; the input reads as it did. -/
def notesLevelledSpec : ChangeSpec := { name := "notesLevelled", fn := fun _ => fun
  | [d1, d2, d3, d4] => { results := [.lit (.bool true)], args := [d1, d2, d3, d4] }
  | _ => none }
def notesLevelledRow : OpenClaim := { program := "ytndobgodeicloaa", sum := "e600c4c8d7a8e1774c7bc948666ebfb7c61185c160774ab1304df7a899e9dcd0", func := "nilometer/nilometerlaw13.NotesLevelled", spec := "notesLevelled", unfollowed := true, recurses := true, plainKeys := false, apart := false }
def NotesLevelledSaid : Prop := notesLevelledRow.holds Try.pinned (OpenSpec.ofChange notesLevelledSpec)

/-- ITS FALSE NEIGHBOUR: 'it returns false'. Refute it at one input. -/
def notesLevelledWrong : ChangeSpec := { name := "notesLevelled", fn := fun _ => fun
  | [d1, d2, d3, d4] => { results := [.lit (.bool false)], args := [d1, d2, d3, d4] }
  | _ => none }
def NotesLevelledWrongFalsely : Prop := notesLevelledRow.holds Try.pinned (OpenSpec.ofChange notesLevelledWrong)

/-- 'nilometerlaw13.NotesNamed': WHATEVER THE INPUT: true; the input reads as it did. -/
def notesNamedSpec : ChangeSpec := { name := "notesNamed", fn := fun _ => fun
  | [d1, d2, d3] => { results := [.lit (.bool true)], args := [d1, d2, d3] }
  | _ => none }
def notesNamedRow : OpenClaim := { program := "ytndobgodeicloaa", sum := "e600c4c8d7a8e1774c7bc948666ebfb7c61185c160774ab1304df7a899e9dcd0", func := "nilometer/nilometerlaw13.NotesNamed", spec := "notesNamed", unfollowed := true, recurses := true, plainKeys := false, apart := false }
def NotesNamedSaid : Prop := notesNamedRow.holds Try.pinned (OpenSpec.ofChange notesNamedSpec)

/-- ITS FALSE NEIGHBOUR: 'it returns false'. Refute it at one input. -/
def notesNamedWrong : ChangeSpec := { name := "notesNamed", fn := fun _ => fun
  | [d1, d2, d3] => { results := [.lit (.bool false)], args := [d1, d2, d3] }
  | _ => none }
def NotesNamedWrongFalsely : Prop := notesNamedRow.holds Try.pinned (OpenSpec.ofChange notesNamedWrong)

/- THE SECOND FORM. 'bulk': how many values and letters a reading holds, each counted each time it is reached (what is shared counts as often as it is met; a slice's spare places count too). A statement '..UptoSaid' is the law's where the arguments, and the package variables that the reading takes, are together of bulk at most 1048576: NARROWER than '..Said'. Prove '..Said' where nothing that the law and all that it calls make is longer than what came in: it says more and counts as full. Else prove '..UptoSaid'. A law counts once. -/
mutual
def uptoBulk {H : Type} : DataW H → Nat
  | .lit (.string bytes) => bytes.length + 1
  | .lit _ => 1
  | .nil => 1
  | .ptr d => uptoBulk d + 1
  | .slice elems spare => uptoBulkAll elems + uptoBulkAll spare + 1
  | .agg parts => uptoBulkAll parts + 1
  | .iface _ d => uptoBulk d + 1
  | .map entries => uptoBulkEntries entries + 1
  | .held _ => 1
def uptoBulkAll {H : Type} : List (DataW H) → Nat
  | [] => 0
  | d :: r => uptoBulk d + uptoBulkAll r
def uptoBulkEntries {H : Type} : List (Lit × DataW H) → Nat
  | [] => 0
  | x :: r => uptoBulkEntry x + uptoBulkEntries r
def uptoBulkEntry {H : Type} : Lit × DataW H → Nat
  | (.string bytes, d) => bytes.length + uptoBulk d + 1
  | (_, d) => uptoBulk d + 1
 end
def uptoSmall : (H : Type) → List (DataW H) → Bool := fun _ ds => decide (uptoBulkAll ds ≤ 1048576)
def OpenSpec.upto (s : _root_.Go.ChangeSpec) : _root_.Go.OpenSpec := { _root_.Go.OpenSpec.ofChange s with cond := some uptoSmall }

/-- 'nilometerlaw13.NotesValues', WHERE WHAT IT READS IS OF BULK AT MOST 1048576: true; the input reads as it did. -/
def notesValuesUptoRow : OpenClaim := { program := "ytndobgodeicloaa", sum := "e600c4c8d7a8e1774c7bc948666ebfb7c61185c160774ab1304df7a899e9dcd0", func := "nilometer/nilometerlaw13.NotesValues", spec := "notesValues", unfollowed := true, recurses := true, plainKeys := false, apart := false, narrowed := true }
def NotesValuesUptoSaid : Prop := notesValuesUptoRow.holds Try.pinned (OpenSpec.upto notesValuesSpec)

/-- 'nilometerlaw13.NotesStale', WHERE WHAT IT READS IS OF BULK AT MOST 1048576: true; the input reads as it did. -/
def notesStaleUptoRow : OpenClaim := { program := "ytndobgodeicloaa", sum := "e600c4c8d7a8e1774c7bc948666ebfb7c61185c160774ab1304df7a899e9dcd0", func := "nilometer/nilometerlaw13.NotesStale", spec := "notesStale", unfollowed := true, recurses := true, plainKeys := false, apart := false, narrowed := true }
def NotesStaleUptoSaid : Prop := notesStaleUptoRow.holds Try.pinned (OpenSpec.upto notesStaleSpec)

/-- 'nilometerlaw13.NotesHeld', WHERE WHAT IT READS IS OF BULK AT MOST 1048576: true; the input reads as it did. -/
def notesHeldUptoRow : OpenClaim := { program := "ytndobgodeicloaa", sum := "e600c4c8d7a8e1774c7bc948666ebfb7c61185c160774ab1304df7a899e9dcd0", func := "nilometer/nilometerlaw13.NotesHeld", spec := "notesHeld", unfollowed := true, recurses := true, plainKeys := false, apart := false, narrowed := true }
def NotesHeldUptoSaid : Prop := notesHeldUptoRow.holds Try.pinned (OpenSpec.upto notesHeldSpec)

/-- 'nilometerlaw13.NotesFenced', WHERE WHAT IT READS IS OF BULK AT MOST 1048576: true; the input reads as it did. -/
def notesFencedUptoRow : OpenClaim := { program := "ytndobgodeicloaa", sum := "e600c4c8d7a8e1774c7bc948666ebfb7c61185c160774ab1304df7a899e9dcd0", func := "nilometer/nilometerlaw13.NotesFenced", spec := "notesFenced", unfollowed := true, recurses := true, plainKeys := false, apart := false, narrowed := true }
def NotesFencedUptoSaid : Prop := notesFencedUptoRow.holds Try.pinned (OpenSpec.upto notesFencedSpec)

/-- 'nilometerlaw13.NotesReady', WHERE WHAT IT READS IS OF BULK AT MOST 1048576: true; the input reads as it did. -/
def notesReadyUptoRow : OpenClaim := { program := "ytndobgodeicloaa", sum := "e600c4c8d7a8e1774c7bc948666ebfb7c61185c160774ab1304df7a899e9dcd0", func := "nilometer/nilometerlaw13.NotesReady", spec := "notesReady", unfollowed := true, recurses := true, plainKeys := false, apart := false, narrowed := true }
def NotesReadyUptoSaid : Prop := notesReadyUptoRow.holds Try.pinned (OpenSpec.upto notesReadySpec)

/-- 'nilometerlaw13.NotesOnce', WHERE WHAT IT READS IS OF BULK AT MOST 1048576: true; the input reads as it did. -/
def notesOnceUptoRow : OpenClaim := { program := "ytndobgodeicloaa", sum := "e600c4c8d7a8e1774c7bc948666ebfb7c61185c160774ab1304df7a899e9dcd0", func := "nilometer/nilometerlaw13.NotesOnce", spec := "notesOnce", unfollowed := true, recurses := true, plainKeys := false, apart := false, narrowed := true }
def NotesOnceUptoSaid : Prop := notesOnceUptoRow.holds Try.pinned (OpenSpec.upto notesOnceSpec)

/-- 'nilometerlaw13.NotesWorked', WHERE WHAT IT READS IS OF BULK AT MOST 1048576: true; the input reads as it did. -/
def notesWorkedUptoRow : OpenClaim := { program := "ytndobgodeicloaa", sum := "e600c4c8d7a8e1774c7bc948666ebfb7c61185c160774ab1304df7a899e9dcd0", func := "nilometer/nilometerlaw13.NotesWorked", spec := "notesWorked", unfollowed := true, recurses := true, plainKeys := false, apart := false, narrowed := true }
def NotesWorkedUptoSaid : Prop := notesWorkedUptoRow.holds Try.pinned (OpenSpec.upto notesWorkedSpec)

/-- 'nilometerlaw13.NotesFreeze', WHERE WHAT IT READS IS OF BULK AT MOST 1048576: true; the input reads as it did. -/
def notesFreezeUptoRow : OpenClaim := { program := "ytndobgodeicloaa", sum := "e600c4c8d7a8e1774c7bc948666ebfb7c61185c160774ab1304df7a899e9dcd0", func := "nilometer/nilometerlaw13.NotesFreeze", spec := "notesFreeze", unfollowed := true, recurses := true, plainKeys := false, apart := false, narrowed := true }
def NotesFreezeUptoSaid : Prop := notesFreezeUptoRow.holds Try.pinned (OpenSpec.upto notesFreezeSpec)

/-- 'nilometerlaw13.NotesCircled', WHERE WHAT IT READS IS OF BULK AT MOST 1048576: true; the input reads as it did. -/
def notesCircledUptoRow : OpenClaim := { program := "ytndobgodeicloaa", sum := "e600c4c8d7a8e1774c7bc948666ebfb7c61185c160774ab1304df7a899e9dcd0", func := "nilometer/nilometerlaw13.NotesCircled", spec := "notesCircled", unfollowed := true, recurses := true, plainKeys := false, apart := false, narrowed := true }
def NotesCircledUptoSaid : Prop := notesCircledUptoRow.holds Try.pinned (OpenSpec.upto notesCircledSpec)

/-- 'nilometerlaw13.NotesFrozen', WHERE WHAT IT READS IS OF BULK AT MOST 1048576: true; the input reads as it did. -/
def notesFrozenUptoRow : OpenClaim := { program := "ytndobgodeicloaa", sum := "e600c4c8d7a8e1774c7bc948666ebfb7c61185c160774ab1304df7a899e9dcd0", func := "nilometer/nilometerlaw13.NotesFrozen", spec := "notesFrozen", unfollowed := true, recurses := true, plainKeys := false, apart := false, narrowed := true }
def NotesFrozenUptoSaid : Prop := notesFrozenUptoRow.holds Try.pinned (OpenSpec.upto notesFrozenSpec)

/-- 'nilometerlaw13.NotesWorks', WHERE WHAT IT READS IS OF BULK AT MOST 1048576: true; the input reads as it did. -/
def notesWorksUptoRow : OpenClaim := { program := "ytndobgodeicloaa", sum := "e600c4c8d7a8e1774c7bc948666ebfb7c61185c160774ab1304df7a899e9dcd0", func := "nilometer/nilometerlaw13.NotesWorks", spec := "notesWorks", unfollowed := true, recurses := true, plainKeys := false, apart := false, narrowed := true }
def NotesWorksUptoSaid : Prop := notesWorksUptoRow.holds Try.pinned (OpenSpec.upto notesWorksSpec)

/-- 'nilometerlaw13.NotesLevelled', WHERE WHAT IT READS IS OF BULK AT MOST 1048576: true; the input reads as it did. -/
def notesLevelledUptoRow : OpenClaim := { program := "ytndobgodeicloaa", sum := "e600c4c8d7a8e1774c7bc948666ebfb7c61185c160774ab1304df7a899e9dcd0", func := "nilometer/nilometerlaw13.NotesLevelled", spec := "notesLevelled", unfollowed := true, recurses := true, plainKeys := false, apart := false, narrowed := true }
def NotesLevelledUptoSaid : Prop := notesLevelledUptoRow.holds Try.pinned (OpenSpec.upto notesLevelledSpec)

/-- 'nilometerlaw13.NotesNamed', WHERE WHAT IT READS IS OF BULK AT MOST 1048576: true; the input reads as it did. -/
def notesNamedUptoRow : OpenClaim := { program := "ytndobgodeicloaa", sum := "e600c4c8d7a8e1774c7bc948666ebfb7c61185c160774ab1304df7a899e9dcd0", func := "nilometer/nilometerlaw13.NotesNamed", spec := "notesNamed", unfollowed := true, recurses := true, plainKeys := false, apart := false, narrowed := true }
def NotesNamedUptoSaid : Prop := notesNamedUptoRow.holds Try.pinned (OpenSpec.upto notesNamedSpec)

end Rows
end Go.Proofs.Ytndobgodeicloaa
