/-
  No cell of these rows narrows 'for every input' (looked for: loops, veiled, ifaces, maps, wideKeys, modest, calm, conditions, laid).
  DERIVED. THE GIVEN ROWS OF THIS SEAT. 8 by the template 'for every input the law returns true; each argument reads behind the call as it read before'; 0 by the template 'total and deterministic' (their statements: YtcgalcbkkijkhaaTotals.lean).
  GIVEN WITH THE SEED: the statements are not yours to turn. If you find one false, say at which input.
  Laid BY PROGRAM, IN A SANDBOX (cutbox-rows.mjs): the forced cells as the released guide's own fill.sh prints them over the translation 801a86541e2a25ba… (all of the seat's roots in one cut). By AI agents, Wed Nov 11 2026. No macro, syntax, notation, axiom, sorry.
-/
import Derived.Test.YtcgalcbkkijkhaaChecked
import GoSem.Claim
import GoSem.ClaimJoined
import GoSem.ClaimMapViews
import Derived.JoinedTies
import Derived.KernelRfl
namespace Go.Proofs.Ytcgalcbkkijkhaa
/- THE CELL 'sum', in the pinned program and in every row, IS THE sha256 OF THE DUMP (.gsa) THAT YtcgalcbkkijkhaaProg.lean LOADS. Nothing in Lean hashes anything: it is a label: what it is worth is what the hold of that sum in a sandbox is worth. -/
noncomputable def Try.pinned : Pinned := { name := "ytcgalcbkkijkhaa", sum := "801a86541e2a25ba4180907bc055a17b3e7305ae81118cbcc3c9b128d92d8e09", checked := Try.checked }
namespace Rows
def none {H : Type} : Left H := { results := [], args := [] }

/-- 'nilometerlaw10.OftenParted': WHATEVER THE INPUT: true; the input reads as it did. -/
def oftenPartedSpec : ChangeSpec := { name := "oftenParted", fn := fun _ => fun
  | [d1, d2, d3, d4, d5, d6] => { results := [.lit (.bool true)], args := [d1, d2, d3, d4, d5, d6] }
  | _ => none }
def oftenPartedRow : OpenClaim := { program := "ytcgalcbkkijkhaa", sum := "801a86541e2a25ba4180907bc055a17b3e7305ae81118cbcc3c9b128d92d8e09", func := "nilometer/nilometerlaw10.OftenParted", spec := "oftenParted", unfollowed := true, recurses := true, apart := false }
def OftenPartedSaid : Prop := oftenPartedRow.holds Try.pinned (OpenSpec.ofChange oftenPartedSpec)

/-- ITS FALSE NEIGHBOUR: 'it returns false'. Refute it at one input. -/
def oftenPartedWrong : ChangeSpec := { name := "oftenParted", fn := fun _ => fun
  | [d1, d2, d3, d4, d5, d6] => { results := [.lit (.bool false)], args := [d1, d2, d3, d4, d5, d6] }
  | _ => none }
def OftenPartedWrongFalsely : Prop := oftenPartedRow.holds Try.pinned (OpenSpec.ofChange oftenPartedWrong)

/-- 'nilometerlaw10.OftenMore': WHATEVER THE INPUT: true; the input reads as it did. -/
def oftenMoreSpec : ChangeSpec := { name := "oftenMore", fn := fun _ => fun
  | [d1, d2, d3, d4] => { results := [.lit (.bool true)], args := [d1, d2, d3, d4] }
  | _ => none }
def oftenMoreRow : OpenClaim := { program := "ytcgalcbkkijkhaa", sum := "801a86541e2a25ba4180907bc055a17b3e7305ae81118cbcc3c9b128d92d8e09", func := "nilometer/nilometerlaw10.OftenMore", spec := "oftenMore", unfollowed := true, recurses := true, apart := false }
def OftenMoreSaid : Prop := oftenMoreRow.holds Try.pinned (OpenSpec.ofChange oftenMoreSpec)

/-- ITS FALSE NEIGHBOUR: 'it returns false'. Refute it at one input. -/
def oftenMoreWrong : ChangeSpec := { name := "oftenMore", fn := fun _ => fun
  | [d1, d2, d3, d4] => { results := [.lit (.bool false)], args := [d1, d2, d3, d4] }
  | _ => none }
def OftenMoreWrongFalsely : Prop := oftenMoreRow.holds Try.pinned (OpenSpec.ofChange oftenMoreWrong)

/-- 'nilometerlaw10.OftenYears': WHATEVER THE INPUT: true; the input reads as it did. -/
def oftenYearsSpec : ChangeSpec := { name := "oftenYears", fn := fun _ => fun
  | [d1, d2, d3, d4, d5, d6] => { results := [.lit (.bool true)], args := [d1, d2, d3, d4, d5, d6] }
  | _ => none }
def oftenYearsRow : OpenClaim := { program := "ytcgalcbkkijkhaa", sum := "801a86541e2a25ba4180907bc055a17b3e7305ae81118cbcc3c9b128d92d8e09", func := "nilometer/nilometerlaw10.OftenYears", spec := "oftenYears", unfollowed := true, recurses := true, apart := false }
def OftenYearsSaid : Prop := oftenYearsRow.holds Try.pinned (OpenSpec.ofChange oftenYearsSpec)

/-- ITS FALSE NEIGHBOUR: 'it returns false'. Refute it at one input. -/
def oftenYearsWrong : ChangeSpec := { name := "oftenYears", fn := fun _ => fun
  | [d1, d2, d3, d4, d5, d6] => { results := [.lit (.bool false)], args := [d1, d2, d3, d4, d5, d6] }
  | _ => none }
def OftenYearsWrongFalsely : Prop := oftenYearsRow.holds Try.pinned (OpenSpec.ofChange oftenYearsWrong)

/-- 'nilometerlaw10.OftenPeaks': WHATEVER THE INPUT: true; the input reads as it did. -/
def oftenPeaksSpec : ChangeSpec := { name := "oftenPeaks", fn := fun _ => fun
  | [d1, d2, d3, d4, d5, d6] => { results := [.lit (.bool true)], args := [d1, d2, d3, d4, d5, d6] }
  | _ => none }
def oftenPeaksRow : OpenClaim := { program := "ytcgalcbkkijkhaa", sum := "801a86541e2a25ba4180907bc055a17b3e7305ae81118cbcc3c9b128d92d8e09", func := "nilometer/nilometerlaw10.OftenPeaks", spec := "oftenPeaks", unfollowed := true, recurses := true, apart := false }
def OftenPeaksSaid : Prop := oftenPeaksRow.holds Try.pinned (OpenSpec.ofChange oftenPeaksSpec)

/-- ITS FALSE NEIGHBOUR: 'it returns false'. Refute it at one input. -/
def oftenPeaksWrong : ChangeSpec := { name := "oftenPeaks", fn := fun _ => fun
  | [d1, d2, d3, d4, d5, d6] => { results := [.lit (.bool false)], args := [d1, d2, d3, d4, d5, d6] }
  | _ => none }
def OftenPeaksWrongFalsely : Prop := oftenPeaksRow.holds Try.pinned (OpenSpec.ofChange oftenPeaksWrong)

/-- 'nilometerlaw10.OftenOwn': WHATEVER THE INPUT: true; the input reads as it did. -/
def oftenOwnSpec : ChangeSpec := { name := "oftenOwn", fn := fun _ => fun
  | [d1, d2, d3, d4] => { results := [.lit (.bool true)], args := [d1, d2, d3, d4] }
  | _ => none }
def oftenOwnRow : OpenClaim := { program := "ytcgalcbkkijkhaa", sum := "801a86541e2a25ba4180907bc055a17b3e7305ae81118cbcc3c9b128d92d8e09", func := "nilometer/nilometerlaw10.OftenOwn", spec := "oftenOwn", unfollowed := true, recurses := true, apart := false }
def OftenOwnSaid : Prop := oftenOwnRow.holds Try.pinned (OpenSpec.ofChange oftenOwnSpec)

/-- ITS FALSE NEIGHBOUR: 'it returns false'. Refute it at one input. -/
def oftenOwnWrong : ChangeSpec := { name := "oftenOwn", fn := fun _ => fun
  | [d1, d2, d3, d4] => { results := [.lit (.bool false)], args := [d1, d2, d3, d4] }
  | _ => none }
def OftenOwnWrongFalsely : Prop := oftenOwnRow.holds Try.pinned (OpenSpec.ofChange oftenOwnWrong)

/-- 'nilometerlaw10.OftenReached': WHATEVER THE INPUT: true; the input reads as it did. -/
def oftenReachedSpec : ChangeSpec := { name := "oftenReached", fn := fun _ => fun
  | [d1, d2, d3, d4, d5] => { results := [.lit (.bool true)], args := [d1, d2, d3, d4, d5] }
  | _ => none }
def oftenReachedRow : OpenClaim := { program := "ytcgalcbkkijkhaa", sum := "801a86541e2a25ba4180907bc055a17b3e7305ae81118cbcc3c9b128d92d8e09", func := "nilometer/nilometerlaw10.OftenReached", spec := "oftenReached", unfollowed := true, recurses := true, apart := false }
def OftenReachedSaid : Prop := oftenReachedRow.holds Try.pinned (OpenSpec.ofChange oftenReachedSpec)

/-- ITS FALSE NEIGHBOUR: 'it returns false'. Refute it at one input. -/
def oftenReachedWrong : ChangeSpec := { name := "oftenReached", fn := fun _ => fun
  | [d1, d2, d3, d4, d5] => { results := [.lit (.bool false)], args := [d1, d2, d3, d4, d5] }
  | _ => none }
def OftenReachedWrongFalsely : Prop := oftenReachedRow.holds Try.pinned (OpenSpec.ofChange oftenReachedWrong)

/-- 'nilometerlaw10.OftenBooks': WHATEVER THE INPUT: true; the input reads as it did. -/
def oftenBooksSpec : ChangeSpec := { name := "oftenBooks", fn := fun _ => fun
  | [d1, d2, d3] => { results := [.lit (.bool true)], args := [d1, d2, d3] }
  | _ => none }
def oftenBooksRow : OpenClaim := { program := "ytcgalcbkkijkhaa", sum := "801a86541e2a25ba4180907bc055a17b3e7305ae81118cbcc3c9b128d92d8e09", func := "nilometer/nilometerlaw10.OftenBooks", spec := "oftenBooks", unfollowed := true, recurses := true, apart := false }
def OftenBooksSaid : Prop := oftenBooksRow.holds Try.pinned (OpenSpec.ofChange oftenBooksSpec)

/-- ITS FALSE NEIGHBOUR: 'it returns false'. Refute it at one input. -/
def oftenBooksWrong : ChangeSpec := { name := "oftenBooks", fn := fun _ => fun
  | [d1, d2, d3] => { results := [.lit (.bool false)], args := [d1, d2, d3] }
  | _ => none }
def OftenBooksWrongFalsely : Prop := oftenBooksRow.holds Try.pinned (OpenSpec.ofChange oftenBooksWrong)

/-- 'nilometerlaw10.OftenTold': WHATEVER THE INPUT: true; the input reads as it did. -/
def oftenToldSpec : ChangeSpec := { name := "oftenTold", fn := fun _ => fun
  | [d1, d2, d3, d4, d5] => { results := [.lit (.bool true)], args := [d1, d2, d3, d4, d5] }
  | _ => none }
def oftenToldRow : OpenClaim := { program := "ytcgalcbkkijkhaa", sum := "801a86541e2a25ba4180907bc055a17b3e7305ae81118cbcc3c9b128d92d8e09", func := "nilometer/nilometerlaw10.OftenTold", spec := "oftenTold", unfollowed := true, recurses := true, apart := false }
def OftenToldSaid : Prop := oftenToldRow.holds Try.pinned (OpenSpec.ofChange oftenToldSpec)

/-- ITS FALSE NEIGHBOUR: 'it returns false'. Refute it at one input. -/
def oftenToldWrong : ChangeSpec := { name := "oftenTold", fn := fun _ => fun
  | [d1, d2, d3, d4, d5] => { results := [.lit (.bool false)], args := [d1, d2, d3, d4, d5] }
  | _ => none }
def OftenToldWrongFalsely : Prop := oftenToldRow.holds Try.pinned (OpenSpec.ofChange oftenToldWrong)

/- THE SECOND FORM. 'bulk': how many values and letters a reading holds, each counted each time it is reached (what is shared counts as often as it is met; a slice's spare places count too). A statement '..UptoSaid' is the law's where the arguments, and the package variables that the reading takes, are together of bulk at most 1048576: NARROWER than '..Said'. Prove '..Said' where nothing that the law and all that it calls make is longer than what came in: it says more and counts as full. Else prove '..UptoSaid'. A law counts once. -/
mutual
def uptoBulk {H : Type} : DataW H → Nat
  | .lit (.string bytes) => bytes.length + 1
  | .lit _ => 1
  | .nil => 1
  | .ptr d => uptoBulk d + 1
  | .slice elems spare => uptoBulkAll elems + uptoBulkAll spare + 1
  | .agg parts => uptoBulkAll parts + 1
  | .iface _ d => uptoBulk d + 1
  | .map entries => uptoBulkEntries entries + 1
  | .held _ => 1
def uptoBulkAll {H : Type} : List (DataW H) → Nat
  | [] => 0
  | d :: r => uptoBulk d + uptoBulkAll r
def uptoBulkEntries {H : Type} : List (Lit × DataW H) → Nat
  | [] => 0
  | x :: r => uptoBulkEntry x + uptoBulkEntries r
def uptoBulkEntry {H : Type} : Lit × DataW H → Nat
  | (.string bytes, d) => bytes.length + uptoBulk d + 1
  | (_, d) => uptoBulk d + 1
 end
def uptoSmall : (H : Type) → List (DataW H) → Bool := fun _ ds => decide (uptoBulkAll ds ≤ 1048576)
def OpenSpec.upto (s : _root_.Go.ChangeSpec) : _root_.Go.OpenSpec := { _root_.Go.OpenSpec.ofChange s with cond := some uptoSmall }

/-- 'nilometerlaw10.OftenParted', WHERE WHAT IT READS IS OF BULK AT MOST 1048576: true; the input reads as it did. -/
def oftenPartedUptoRow : OpenClaim := { program := "ytcgalcbkkijkhaa", sum := "801a86541e2a25ba4180907bc055a17b3e7305ae81118cbcc3c9b128d92d8e09", func := "nilometer/nilometerlaw10.OftenParted", spec := "oftenParted", unfollowed := true, recurses := true, apart := false, narrowed := true }
def OftenPartedUptoSaid : Prop := oftenPartedUptoRow.holds Try.pinned (OpenSpec.upto oftenPartedSpec)

/-- 'nilometerlaw10.OftenMore', WHERE WHAT IT READS IS OF BULK AT MOST 1048576: true; the input reads as it did. -/
def oftenMoreUptoRow : OpenClaim := { program := "ytcgalcbkkijkhaa", sum := "801a86541e2a25ba4180907bc055a17b3e7305ae81118cbcc3c9b128d92d8e09", func := "nilometer/nilometerlaw10.OftenMore", spec := "oftenMore", unfollowed := true, recurses := true, apart := false, narrowed := true }
def OftenMoreUptoSaid : Prop := oftenMoreUptoRow.holds Try.pinned (OpenSpec.upto oftenMoreSpec)

/-- 'nilometerlaw10.OftenYears', WHERE WHAT IT READS IS OF BULK AT MOST 1048576: true; the input reads as it did. -/
def oftenYearsUptoRow : OpenClaim := { program := "ytcgalcbkkijkhaa", sum := "801a86541e2a25ba4180907bc055a17b3e7305ae81118cbcc3c9b128d92d8e09", func := "nilometer/nilometerlaw10.OftenYears", spec := "oftenYears", unfollowed := true, recurses := true, apart := false, narrowed := true }
def OftenYearsUptoSaid : Prop := oftenYearsUptoRow.holds Try.pinned (OpenSpec.upto oftenYearsSpec)

/-- 'nilometerlaw10.OftenPeaks', WHERE WHAT IT READS IS OF BULK AT MOST 1048576: true; the input reads as it did. -/
def oftenPeaksUptoRow : OpenClaim := { program := "ytcgalcbkkijkhaa", sum := "801a86541e2a25ba4180907bc055a17b3e7305ae81118cbcc3c9b128d92d8e09", func := "nilometer/nilometerlaw10.OftenPeaks", spec := "oftenPeaks", unfollowed := true, recurses := true, apart := false, narrowed := true }
def OftenPeaksUptoSaid : Prop := oftenPeaksUptoRow.holds Try.pinned (OpenSpec.upto oftenPeaksSpec)

/-- 'nilometerlaw10.OftenOwn', WHERE WHAT IT READS IS OF BULK AT MOST 1048576: true; the input reads as it did. -/
def oftenOwnUptoRow : OpenClaim := { program := "ytcgalcbkkijkhaa", sum := "801a86541e2a25ba4180907bc055a17b3e7305ae81118cbcc3c9b128d92d8e09", func := "nilometer/nilometerlaw10.OftenOwn", spec := "oftenOwn", unfollowed := true, recurses := true, apart := false, narrowed := true }
def OftenOwnUptoSaid : Prop := oftenOwnUptoRow.holds Try.pinned (OpenSpec.upto oftenOwnSpec)

/-- 'nilometerlaw10.OftenReached', WHERE WHAT IT READS IS OF BULK AT MOST 1048576: true; the input reads as it did. -/
def oftenReachedUptoRow : OpenClaim := { program := "ytcgalcbkkijkhaa", sum := "801a86541e2a25ba4180907bc055a17b3e7305ae81118cbcc3c9b128d92d8e09", func := "nilometer/nilometerlaw10.OftenReached", spec := "oftenReached", unfollowed := true, recurses := true, apart := false, narrowed := true }
def OftenReachedUptoSaid : Prop := oftenReachedUptoRow.holds Try.pinned (OpenSpec.upto oftenReachedSpec)

/-- 'nilometerlaw10.OftenBooks', WHERE WHAT IT READS IS OF BULK AT MOST 1048576: true; the input reads as it did. -/
def oftenBooksUptoRow : OpenClaim := { program := "ytcgalcbkkijkhaa", sum := "801a86541e2a25ba4180907bc055a17b3e7305ae81118cbcc3c9b128d92d8e09", func := "nilometer/nilometerlaw10.OftenBooks", spec := "oftenBooks", unfollowed := true, recurses := true, apart := false, narrowed := true }
def OftenBooksUptoSaid : Prop := oftenBooksUptoRow.holds Try.pinned (OpenSpec.upto oftenBooksSpec)

/-- 'nilometerlaw10.OftenTold', WHERE WHAT IT READS IS OF BULK AT MOST 1048576: true; the input reads as it did. -/
def oftenToldUptoRow : OpenClaim := { program := "ytcgalcbkkijkhaa", sum := "801a86541e2a25ba4180907bc055a17b3e7305ae81118cbcc3c9b128d92d8e09", func := "nilometer/nilometerlaw10.OftenTold", spec := "oftenTold", unfollowed := true, recurses := true, apart := false, narrowed := true }
def OftenToldUptoSaid : Prop := oftenToldUptoRow.holds Try.pinned (OpenSpec.upto oftenToldSpec)

end Rows
end Go.Proofs.Ytcgalcbkkijkhaa
