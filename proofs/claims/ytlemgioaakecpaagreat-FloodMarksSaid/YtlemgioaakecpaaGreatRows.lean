/-
  No cell of these rows narrows 'for every input' (looked for: loops, veiled, ifaces, maps, wideKeys, modest, calm, conditions, laid).
  DERIVED. THE GIVEN ROWS OF THIS SEAT. 5 by the template 'for every input the law returns true; each argument reads behind the call as it read before'; 0 by the template 'total and deterministic' (their statements: YtlemgioaakecpaaGreatTotals.lean).
  GIVEN WITH THE SEED: the statements are not yours to turn. If you find one false, say at which input.
  Laid BY PROGRAM, IN A SANDBOX (cutbox-rows.mjs): the forced cells as the released guide's own fill.sh prints them over the translation 3b614baf9e7a8240… (all of the seat's roots in one cut). By AI agents, Wed Nov 11 2026. No macro, syntax, notation, axiom, sorry.
-/
import Derived.Test.YtlemgioaakecpaaGreatChecked
import GoSem.Claim
import GoSem.ClaimJoined
import GoSem.ClaimMapViews
import Derived.JoinedTies
import Derived.KernelRfl
namespace Go.Proofs.YtlemgioaakecpaaGreat
/- THE CELL 'sum', in the pinned program and in every row, IS THE sha256 OF THE DUMP (.gsa) THAT YtlemgioaakecpaaGreatProg.lean LOADS. Nothing in Lean hashes anything: it is a label: what it is worth is what the hold of that sum in a sandbox is worth. -/
noncomputable def Tryz.pinned : Pinned := { name := "ytlemgioaakecpaagreat", sum := "3b614baf9e7a824058614bc56a8bf546918359b891d4271b828a24a8836e1879", checked := Tryz.checked }
namespace Rows
def none {H : Type} : Left H := { results := [], args := [] }

/-- 'nilometerlaw06.FloodMost': WHATEVER THE INPUT: true; the input reads as it did. -/
def floodMostSpec : ChangeSpec := { name := "floodMost", fn := fun _ => fun
  | [d1, d2] => { results := [.lit (.bool true)], args := [d1, d2] }
  | _ => none }
def floodMostRow : OpenClaim := { program := "ytlemgioaakecpaagreat", sum := "3b614baf9e7a824058614bc56a8bf546918359b891d4271b828a24a8836e1879", func := "nilometer/nilometerlaw06.FloodMost", spec := "floodMost", unfollowed := true, recurses := true, plainKeys := false, apart := false }
def FloodMostSaid : Prop := floodMostRow.holds Tryz.pinned (OpenSpec.ofChange floodMostSpec)

/-- ITS FALSE NEIGHBOUR: 'it returns false'. Refute it at one input. -/
def floodMostWrong : ChangeSpec := { name := "floodMost", fn := fun _ => fun
  | [d1, d2] => { results := [.lit (.bool false)], args := [d1, d2] }
  | _ => none }
def FloodMostWrongFalsely : Prop := floodMostRow.holds Tryz.pinned (OpenSpec.ofChange floodMostWrong)

/-- 'nilometerlaw06.FloodReached': WHATEVER THE INPUT: true; the input reads as it did. -/
def floodReachedSpec : ChangeSpec := { name := "floodReached", fn := fun _ => fun
  | [d1, d2] => { results := [.lit (.bool true)], args := [d1, d2] }
  | _ => none }
def floodReachedRow : OpenClaim := { program := "ytlemgioaakecpaagreat", sum := "3b614baf9e7a824058614bc56a8bf546918359b891d4271b828a24a8836e1879", func := "nilometer/nilometerlaw06.FloodReached", spec := "floodReached", unfollowed := true, recurses := true, plainKeys := false, apart := false }
def FloodReachedSaid : Prop := floodReachedRow.holds Tryz.pinned (OpenSpec.ofChange floodReachedSpec)

/-- ITS FALSE NEIGHBOUR: 'it returns false'. Refute it at one input. -/
def floodReachedWrong : ChangeSpec := { name := "floodReached", fn := fun _ => fun
  | [d1, d2] => { results := [.lit (.bool false)], args := [d1, d2] }
  | _ => none }
def FloodReachedWrongFalsely : Prop := floodReachedRow.holds Tryz.pinned (OpenSpec.ofChange floodReachedWrong)

/-- 'nilometerlaw06.FloodMore': WHATEVER THE INPUT: true; the input reads as it did. -/
def floodMoreSpec : ChangeSpec := { name := "floodMore", fn := fun _ => fun
  | [d1, d2, d3] => { results := [.lit (.bool true)], args := [d1, d2, d3] }
  | _ => none }
def floodMoreRow : OpenClaim := { program := "ytlemgioaakecpaagreat", sum := "3b614baf9e7a824058614bc56a8bf546918359b891d4271b828a24a8836e1879", func := "nilometer/nilometerlaw06.FloodMore", spec := "floodMore", unfollowed := true, recurses := true, plainKeys := false, apart := false }
def FloodMoreSaid : Prop := floodMoreRow.holds Tryz.pinned (OpenSpec.ofChange floodMoreSpec)

/-- ITS FALSE NEIGHBOUR: 'it returns false'. Refute it at one input. -/
def floodMoreWrong : ChangeSpec := { name := "floodMore", fn := fun _ => fun
  | [d1, d2, d3] => { results := [.lit (.bool false)], args := [d1, d2, d3] }
  | _ => none }
def FloodMoreWrongFalsely : Prop := floodMoreRow.holds Tryz.pinned (OpenSpec.ofChange floodMoreWrong)

/-- 'nilometerlaw06.FloodMarks': WHATEVER THE INPUT: true; the input reads as it did. -/
def floodMarksSpec : ChangeSpec := { name := "floodMarks", fn := fun _ => fun
  | [d1, d2, d3, d4, d5, d6, d7] => { results := [.lit (.bool true)], args := [d1, d2, d3, d4, d5, d6, d7] }
  | _ => none }
def floodMarksRow : OpenClaim := { program := "ytlemgioaakecpaagreat", sum := "3b614baf9e7a824058614bc56a8bf546918359b891d4271b828a24a8836e1879", func := "nilometer/nilometerlaw06.FloodMarks", spec := "floodMarks", unfollowed := true, recurses := true, plainKeys := false, apart := false }
def FloodMarksSaid : Prop := floodMarksRow.holds Tryz.pinned (OpenSpec.ofChange floodMarksSpec)

/-- ITS FALSE NEIGHBOUR: 'it returns false'. Refute it at one input. -/
def floodMarksWrong : ChangeSpec := { name := "floodMarks", fn := fun _ => fun
  | [d1, d2, d3, d4, d5, d6, d7] => { results := [.lit (.bool false)], args := [d1, d2, d3, d4, d5, d6, d7] }
  | _ => none }
def FloodMarksWrongFalsely : Prop := floodMarksRow.holds Tryz.pinned (OpenSpec.ofChange floodMarksWrong)

/-- 'nilometerlaw06.FloodPeaks': WHATEVER THE INPUT: true; the input reads as it did. -/
def floodPeaksSpec : ChangeSpec := { name := "floodPeaks", fn := fun _ => fun
  | [d1, d2, d3, d4, d5, d6] => { results := [.lit (.bool true)], args := [d1, d2, d3, d4, d5, d6] }
  | _ => none }
def floodPeaksRow : OpenClaim := { program := "ytlemgioaakecpaagreat", sum := "3b614baf9e7a824058614bc56a8bf546918359b891d4271b828a24a8836e1879", func := "nilometer/nilometerlaw06.FloodPeaks", spec := "floodPeaks", unfollowed := true, recurses := true, plainKeys := false, apart := false }
def FloodPeaksSaid : Prop := floodPeaksRow.holds Tryz.pinned (OpenSpec.ofChange floodPeaksSpec)

/-- ITS FALSE NEIGHBOUR: 'it returns false'. Refute it at one input. -/
def floodPeaksWrong : ChangeSpec := { name := "floodPeaks", fn := fun _ => fun
  | [d1, d2, d3, d4, d5, d6] => { results := [.lit (.bool false)], args := [d1, d2, d3, d4, d5, d6] }
  | _ => none }
def FloodPeaksWrongFalsely : Prop := floodPeaksRow.holds Tryz.pinned (OpenSpec.ofChange floodPeaksWrong)

/- THE SECOND FORM. 'bulk': how many values and letters a reading holds, each counted each time it is reached (what is shared counts as often as it is met; a slice's spare places count too). A statement '..UptoSaid' is the law's where the arguments, and the package variables that the reading takes, are together of bulk at most 1048576: NARROWER than '..Said'. Prove '..Said' where nothing that the law and all that it calls make is longer than what came in: it says more and counts as full. Else prove '..UptoSaid'. A law counts once. -/
mutual
def uptoBulk {H : Type} : DataW H → Nat
  | .lit (.string bytes) => bytes.length + 1
  | .lit _ => 1
  | .nil => 1
  | .ptr d => uptoBulk d + 1
  | .slice elems spare => uptoBulkAll elems + uptoBulkAll spare + 1
  | .agg parts => uptoBulkAll parts + 1
  | .iface _ d => uptoBulk d + 1
  | .map entries => uptoBulkEntries entries + 1
  | .held _ => 1
def uptoBulkAll {H : Type} : List (DataW H) → Nat
  | [] => 0
  | d :: r => uptoBulk d + uptoBulkAll r
def uptoBulkEntries {H : Type} : List (Lit × DataW H) → Nat
  | [] => 0
  | x :: r => uptoBulkEntry x + uptoBulkEntries r
def uptoBulkEntry {H : Type} : Lit × DataW H → Nat
  | (.string bytes, d) => bytes.length + uptoBulk d + 1
  | (_, d) => uptoBulk d + 1
 end
def uptoSmall : (H : Type) → List (DataW H) → Bool := fun _ ds => decide (uptoBulkAll ds ≤ 1048576)
def OpenSpec.upto (s : _root_.Go.ChangeSpec) : _root_.Go.OpenSpec := { _root_.Go.OpenSpec.ofChange s with cond := some uptoSmall }

/-- 'nilometerlaw06.FloodMost', WHERE WHAT IT READS IS OF BULK AT MOST 1048576: true; the input reads as it did. -/
def floodMostUptoRow : OpenClaim := { program := "ytlemgioaakecpaagreat", sum := "3b614baf9e7a824058614bc56a8bf546918359b891d4271b828a24a8836e1879", func := "nilometer/nilometerlaw06.FloodMost", spec := "floodMost", unfollowed := true, recurses := true, plainKeys := false, apart := false, narrowed := true }
def FloodMostUptoSaid : Prop := floodMostUptoRow.holds Tryz.pinned (OpenSpec.upto floodMostSpec)

/-- 'nilometerlaw06.FloodReached', WHERE WHAT IT READS IS OF BULK AT MOST 1048576: true; the input reads as it did. -/
def floodReachedUptoRow : OpenClaim := { program := "ytlemgioaakecpaagreat", sum := "3b614baf9e7a824058614bc56a8bf546918359b891d4271b828a24a8836e1879", func := "nilometer/nilometerlaw06.FloodReached", spec := "floodReached", unfollowed := true, recurses := true, plainKeys := false, apart := false, narrowed := true }
def FloodReachedUptoSaid : Prop := floodReachedUptoRow.holds Tryz.pinned (OpenSpec.upto floodReachedSpec)

/-- 'nilometerlaw06.FloodMore', WHERE WHAT IT READS IS OF BULK AT MOST 1048576: true; the input reads as it did. -/
def floodMoreUptoRow : OpenClaim := { program := "ytlemgioaakecpaagreat", sum := "3b614baf9e7a824058614bc56a8bf546918359b891d4271b828a24a8836e1879", func := "nilometer/nilometerlaw06.FloodMore", spec := "floodMore", unfollowed := true, recurses := true, plainKeys := false, apart := false, narrowed := true }
def FloodMoreUptoSaid : Prop := floodMoreUptoRow.holds Tryz.pinned (OpenSpec.upto floodMoreSpec)

/-- 'nilometerlaw06.FloodMarks', WHERE WHAT IT READS IS OF BULK AT MOST 1048576: true; the input reads as it did. -/
def floodMarksUptoRow : OpenClaim := { program := "ytlemgioaakecpaagreat", sum := "3b614baf9e7a824058614bc56a8bf546918359b891d4271b828a24a8836e1879", func := "nilometer/nilometerlaw06.FloodMarks", spec := "floodMarks", unfollowed := true, recurses := true, plainKeys := false, apart := false, narrowed := true }
def FloodMarksUptoSaid : Prop := floodMarksUptoRow.holds Tryz.pinned (OpenSpec.upto floodMarksSpec)

/-- 'nilometerlaw06.FloodPeaks', WHERE WHAT IT READS IS OF BULK AT MOST 1048576: true; the input reads as it did. -/
def floodPeaksUptoRow : OpenClaim := { program := "ytlemgioaakecpaagreat", sum := "3b614baf9e7a824058614bc56a8bf546918359b891d4271b828a24a8836e1879", func := "nilometer/nilometerlaw06.FloodPeaks", spec := "floodPeaks", unfollowed := true, recurses := true, plainKeys := false, apart := false, narrowed := true }
def FloodPeaksUptoSaid : Prop := floodPeaksUptoRow.holds Tryz.pinned (OpenSpec.upto floodPeaksSpec)

end Rows
end Go.Proofs.YtlemgioaakecpaaGreat
