/-
  No cell of these rows narrows 'for every input' (looked for: loops, veiled, ifaces, maps, wideKeys, modest, calm, conditions, laid).
  DERIVED. THE GIVEN ROWS OF THIS SEAT. 3 by the template 'for every input the law returns true; each argument reads behind the call as it read before'; 0 by the template 'total and deterministic' (their statements: YtbaehghammbjdaaGreatTotals.lean).
  GIVEN WITH THE SEED: the statements are not yours to turn. If you find one false, say at which input.
  Laid BY PROGRAM, IN A SANDBOX (cutbox-rows.mjs): the forced cells as the released guide's own fill.sh prints them over the translation cb4ae23e7a347e30… (all of the seat's roots in one cut). By AI agents, Wed Nov 11 2026. No macro, syntax, notation, axiom, sorry.
-/
import Derived.Test.YtbaehghammbjdaaGreatChecked
import GoSem.Claim
import GoSem.ClaimJoined
import GoSem.ClaimMapViews
import Derived.JoinedTies
import Derived.KernelRfl
namespace Go.Proofs.YtbaehghammbjdaaGreat
/- THE CELL 'sum', in the pinned program and in every row, IS THE sha256 OF THE DUMP (.gsa) THAT YtbaehghammbjdaaGreatProg.lean LOADS. Nothing in Lean hashes anything: it is a label: what it is worth is what the hold of that sum in a sandbox is worth. -/
noncomputable def Tryz.pinned : Pinned := { name := "ytbaehghammbjdaagreat", sum := "cb4ae23e7a347e30e19e511b1c3a1ace5e94b65a7f3e4fc4fbcc652e0ba35eda", checked := Tryz.checked }
namespace Rows
def none {H : Type} : Left H := { results := [], args := [] }

/-- 'nilometerlaw12.WarnFloods': WHATEVER THE INPUT: true; the input reads as it did. -/
def warnFloodsSpec : ChangeSpec := { name := "warnFloods", fn := fun _ => fun
  | [d1, d2, d3, d4] => { results := [.lit (.bool true)], args := [d1, d2, d3, d4] }
  | _ => none }
def warnFloodsRow : OpenClaim := { program := "ytbaehghammbjdaagreat", sum := "cb4ae23e7a347e30e19e511b1c3a1ace5e94b65a7f3e4fc4fbcc652e0ba35eda", func := "nilometer/nilometerlaw12.WarnFloods", spec := "warnFloods", unfollowed := true, recurses := true, plainKeys := false, apart := false }
def WarnFloodsSaid : Prop := warnFloodsRow.holds Tryz.pinned (OpenSpec.ofChange warnFloodsSpec)

/-- ITS FALSE NEIGHBOUR: 'it returns false'. Refute it at one input. -/
def warnFloodsWrong : ChangeSpec := { name := "warnFloods", fn := fun _ => fun
  | [d1, d2, d3, d4] => { results := [.lit (.bool false)], args := [d1, d2, d3, d4] }
  | _ => none }
def WarnFloodsWrongFalsely : Prop := warnFloodsRow.holds Tryz.pinned (OpenSpec.ofChange warnFloodsWrong)

/-- 'nilometerlaw12.WarnPaths': WHATEVER THE INPUT: true; the input reads as it did. -/
def warnPathsSpec : ChangeSpec := { name := "warnPaths", fn := fun _ => fun
  | [d1, d2, d3, d4] => { results := [.lit (.bool true)], args := [d1, d2, d3, d4] }
  | _ => none }
def warnPathsRow : OpenClaim := { program := "ytbaehghammbjdaagreat", sum := "cb4ae23e7a347e30e19e511b1c3a1ace5e94b65a7f3e4fc4fbcc652e0ba35eda", func := "nilometer/nilometerlaw12.WarnPaths", spec := "warnPaths", unfollowed := true, recurses := true, plainKeys := false, apart := false }
def WarnPathsSaid : Prop := warnPathsRow.holds Tryz.pinned (OpenSpec.ofChange warnPathsSpec)

/-- ITS FALSE NEIGHBOUR: 'it returns false'. Refute it at one input. -/
def warnPathsWrong : ChangeSpec := { name := "warnPaths", fn := fun _ => fun
  | [d1, d2, d3, d4] => { results := [.lit (.bool false)], args := [d1, d2, d3, d4] }
  | _ => none }
def WarnPathsWrongFalsely : Prop := warnPathsRow.holds Tryz.pinned (OpenSpec.ofChange warnPathsWrong)

/-- 'nilometerlaw12.WarnWatches': WHATEVER THE INPUT: true; the input reads as it did. -/
def warnWatchesSpec : ChangeSpec := { name := "warnWatches", fn := fun _ => fun
  | [d1, d2, d3, d4, d5] => { results := [.lit (.bool true)], args := [d1, d2, d3, d4, d5] }
  | _ => none }
def warnWatchesRow : OpenClaim := { program := "ytbaehghammbjdaagreat", sum := "cb4ae23e7a347e30e19e511b1c3a1ace5e94b65a7f3e4fc4fbcc652e0ba35eda", func := "nilometer/nilometerlaw12.WarnWatches", spec := "warnWatches", unfollowed := true, recurses := true, plainKeys := false, apart := false }
def WarnWatchesSaid : Prop := warnWatchesRow.holds Tryz.pinned (OpenSpec.ofChange warnWatchesSpec)

/-- ITS FALSE NEIGHBOUR: 'it returns false'. Refute it at one input. -/
def warnWatchesWrong : ChangeSpec := { name := "warnWatches", fn := fun _ => fun
  | [d1, d2, d3, d4, d5] => { results := [.lit (.bool false)], args := [d1, d2, d3, d4, d5] }
  | _ => none }
def WarnWatchesWrongFalsely : Prop := warnWatchesRow.holds Tryz.pinned (OpenSpec.ofChange warnWatchesWrong)

/- THE SECOND FORM. 'bulk': how many values and letters a reading holds, each counted each time it is reached (what is shared counts as often as it is met; a slice's spare places count too). A statement '..UptoSaid' is the law's where the arguments, and the package variables that the reading takes, are together of bulk at most 1048576: NARROWER than '..Said'. Prove '..Said' where nothing that the law and all that it calls make is longer than what came in: it says more and counts as full. Else prove '..UptoSaid'. A law counts once. -/
mutual
def uptoBulk {H : Type} : DataW H → Nat
  | .lit (.string bytes) => bytes.length + 1
  | .lit _ => 1
  | .nil => 1
  | .ptr d => uptoBulk d + 1
  | .slice elems spare => uptoBulkAll elems + uptoBulkAll spare + 1
  | .agg parts => uptoBulkAll parts + 1
  | .iface _ d => uptoBulk d + 1
  | .map entries => uptoBulkEntries entries + 1
  | .held _ => 1
def uptoBulkAll {H : Type} : List (DataW H) → Nat
  | [] => 0
  | d :: r => uptoBulk d + uptoBulkAll r
def uptoBulkEntries {H : Type} : List (Lit × DataW H) → Nat
  | [] => 0
  | x :: r => uptoBulkEntry x + uptoBulkEntries r
def uptoBulkEntry {H : Type} : Lit × DataW H → Nat
  | (.string bytes, d) => bytes.length + uptoBulk d + 1
  | (_, d) => uptoBulk d + 1
 end
def uptoSmall : (H : Type) → List (DataW H) → Bool := fun _ ds => decide (uptoBulkAll ds ≤ 1048576)
def OpenSpec.upto (s : _root_.Go.ChangeSpec) : _root_.Go.OpenSpec := { _root_.Go.OpenSpec.ofChange s with cond := some uptoSmall }

/-- 'nilometerlaw12.WarnFloods', WHERE WHAT IT READS IS OF BULK AT MOST 1048576: true; the input reads as it did. -/
def warnFloodsUptoRow : OpenClaim := { program := "ytbaehghammbjdaagreat", sum := "cb4ae23e7a347e30e19e511b1c3a1ace5e94b65a7f3e4fc4fbcc652e0ba35eda", func := "nilometer/nilometerlaw12.WarnFloods", spec := "warnFloods", unfollowed := true, recurses := true, plainKeys := false, apart := false, narrowed := true }
def WarnFloodsUptoSaid : Prop := warnFloodsUptoRow.holds Tryz.pinned (OpenSpec.upto warnFloodsSpec)

/-- 'nilometerlaw12.WarnPaths', WHERE WHAT IT READS IS OF BULK AT MOST 1048576: true; the input reads as it did. -/
def warnPathsUptoRow : OpenClaim := { program := "ytbaehghammbjdaagreat", sum := "cb4ae23e7a347e30e19e511b1c3a1ace5e94b65a7f3e4fc4fbcc652e0ba35eda", func := "nilometer/nilometerlaw12.WarnPaths", spec := "warnPaths", unfollowed := true, recurses := true, plainKeys := false, apart := false, narrowed := true }
def WarnPathsUptoSaid : Prop := warnPathsUptoRow.holds Tryz.pinned (OpenSpec.upto warnPathsSpec)

/-- 'nilometerlaw12.WarnWatches', WHERE WHAT IT READS IS OF BULK AT MOST 1048576: true; the input reads as it did. -/
def warnWatchesUptoRow : OpenClaim := { program := "ytbaehghammbjdaagreat", sum := "cb4ae23e7a347e30e19e511b1c3a1ace5e94b65a7f3e4fc4fbcc652e0ba35eda", func := "nilometer/nilometerlaw12.WarnWatches", spec := "warnWatches", unfollowed := true, recurses := true, plainKeys := false, apart := false, narrowed := true }
def WarnWatchesUptoSaid : Prop := warnWatchesUptoRow.holds Tryz.pinned (OpenSpec.upto warnWatchesSpec)

end Rows
end Go.Proofs.YtbaehghammbjdaaGreat
