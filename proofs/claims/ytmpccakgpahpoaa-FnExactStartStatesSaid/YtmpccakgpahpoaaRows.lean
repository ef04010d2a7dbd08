/-
  No cell of these rows narrows 'for every input' (looked for: loops, veiled, ifaces, maps, wideKeys, modest, calm, conditions, laid).
  DERIVED. THE GIVEN ROWS OF THIS SEAT. 8 by the template 'for every input the law returns true; each argument reads behind the call as it read before'; 0 by the template 'total and deterministic' (their statements: YtmpccakgpahpoaaTotals.lean).
  GIVEN WITH THE SEED: the statements are not yours to turn. If you find one false, say at which input.
  Laid BY PROGRAM, IN A SANDBOX (cutbox-rows.mjs): the forced cells as the released guide's own fill.sh prints them over the translation 70c92984a36c0cde… (all of the seat's roots in one cut). By AI agents, Wed Nov 11 2026. No macro, syntax, notation, axiom, sorry.
-/
import Derived.Test.YtmpccakgpahpoaaChecked
import GoSem.Claim
import GoSem.ClaimJoined
import GoSem.ClaimMapViews
import Derived.JoinedTies
import Derived.KernelRfl
namespace Go.Proofs.Ytmpccakgpahpoaa
/- THE CELL 'sum', in the pinned program and in every row, IS THE sha256 OF THE DUMP (.gsa) THAT YtmpccakgpahpoaaProg.lean LOADS. Nothing in Lean hashes anything: it is a label: what it is worth is what the hold of that sum in a sandbox is worth. -/
noncomputable def Try.pinned : Pinned := { name := "ytmpccakgpahpoaa", sum := "70c92984a36c0cdee5616946b903b34babce14bb6cda057f09c5329a6deebb40", checked := Try.checked }
namespace Rows
def none {H : Type} : Left H := { results := [], args := [] }

/-- 'laws.FnExactValidTasks': WHATEVER THE INPUT: true; the input reads as it did. -/
def fnExactValidTasksSpec : ChangeSpec := { name := "fnExactValidTasks", fn := fun _ => fun
  | [d] => { results := [.lit (.bool true)], args := [d] }
  | _ => none }
def fnExactValidTasksRow : OpenClaim := { program := "ytmpccakgpahpoaa", sum := "70c92984a36c0cdee5616946b903b34babce14bb6cda057f09c5329a6deebb40", func := "loop.example/g00932/laws.FnExactValidTasks", spec := "fnExactValidTasks", apart := false }
def FnExactValidTasksSaid : Prop := fnExactValidTasksRow.holds Try.pinned (OpenSpec.ofChange fnExactValidTasksSpec)

/-- ITS FALSE NEIGHBOUR: 'it returns false'. Refute it at one input. -/
def fnExactValidTasksWrong : ChangeSpec := { name := "fnExactValidTasks", fn := fun _ => fun
  | [d] => { results := [.lit (.bool false)], args := [d] }
  | _ => none }
def FnExactValidTasksWrongFalsely : Prop := fnExactValidTasksRow.holds Try.pinned (OpenSpec.ofChange fnExactValidTasksWrong)

/-- 'laws.FnExactValidSite': WHATEVER THE INPUT: true; the input reads as it did. -/
def fnExactValidSiteSpec : ChangeSpec := { name := "fnExactValidSite", fn := fun _ => fun
  | [d] => { results := [.lit (.bool true)], args := [d] }
  | _ => none }
def fnExactValidSiteRow : OpenClaim := { program := "ytmpccakgpahpoaa", sum := "70c92984a36c0cdee5616946b903b34babce14bb6cda057f09c5329a6deebb40", func := "loop.example/g00932/laws.FnExactValidSite", spec := "fnExactValidSite", apart := false }
def FnExactValidSiteSaid : Prop := fnExactValidSiteRow.holds Try.pinned (OpenSpec.ofChange fnExactValidSiteSpec)

/-- ITS FALSE NEIGHBOUR: 'it returns false'. Refute it at one input. -/
def fnExactValidSiteWrong : ChangeSpec := { name := "fnExactValidSite", fn := fun _ => fun
  | [d] => { results := [.lit (.bool false)], args := [d] }
  | _ => none }
def FnExactValidSiteWrongFalsely : Prop := fnExactValidSiteRow.holds Try.pinned (OpenSpec.ofChange fnExactValidSiteWrong)

/-- 'laws.FnExactCraneNamed': WHATEVER THE INPUT: true; the input reads as it did. -/
def fnExactCraneNamedSpec : ChangeSpec := { name := "fnExactCraneNamed", fn := fun _ => fun
  | [d1, d2] => { results := [.lit (.bool true)], args := [d1, d2] }
  | _ => none }
def fnExactCraneNamedRow : OpenClaim := { program := "ytmpccakgpahpoaa", sum := "70c92984a36c0cdee5616946b903b34babce14bb6cda057f09c5329a6deebb40", func := "loop.example/g00932/laws.FnExactCraneNamed", spec := "fnExactCraneNamed", unfollowed := true, recurses := true, apart := false }
def FnExactCraneNamedSaid : Prop := fnExactCraneNamedRow.holds Try.pinned (OpenSpec.ofChange fnExactCraneNamedSpec)

/-- ITS FALSE NEIGHBOUR: 'it returns false'. Refute it at one input. -/
def fnExactCraneNamedWrong : ChangeSpec := { name := "fnExactCraneNamed", fn := fun _ => fun
  | [d1, d2] => { results := [.lit (.bool false)], args := [d1, d2] }
  | _ => none }
def FnExactCraneNamedWrongFalsely : Prop := fnExactCraneNamedRow.holds Try.pinned (OpenSpec.ofChange fnExactCraneNamedWrong)

/-- 'laws.FnExactMergeEvents': WHATEVER THE INPUT: true; the input reads as it did. -/
def fnExactMergeEventsSpec : ChangeSpec := { name := "fnExactMergeEvents", fn := fun _ => fun
  | [d1, d2] => { results := [.lit (.bool true)], args := [d1, d2] }
  | _ => none }
def fnExactMergeEventsRow : OpenClaim := { program := "ytmpccakgpahpoaa", sum := "70c92984a36c0cdee5616946b903b34babce14bb6cda057f09c5329a6deebb40", func := "loop.example/g00932/laws.FnExactMergeEvents", spec := "fnExactMergeEvents", unfollowed := true, recurses := true, apart := false }
def FnExactMergeEventsSaid : Prop := fnExactMergeEventsRow.holds Try.pinned (OpenSpec.ofChange fnExactMergeEventsSpec)

/-- ITS FALSE NEIGHBOUR: 'it returns false'. Refute it at one input. -/
def fnExactMergeEventsWrong : ChangeSpec := { name := "fnExactMergeEvents", fn := fun _ => fun
  | [d1, d2] => { results := [.lit (.bool false)], args := [d1, d2] }
  | _ => none }
def FnExactMergeEventsWrongFalsely : Prop := fnExactMergeEventsRow.holds Try.pinned (OpenSpec.ofChange fnExactMergeEventsWrong)

/-- 'laws.FnExactHeaviestAt': WHATEVER THE INPUT: true; the input reads as it did. -/
def fnExactHeaviestAtSpec : ChangeSpec := { name := "fnExactHeaviestAt", fn := fun _ => fun
  | [d1, d2] => { results := [.lit (.bool true)], args := [d1, d2] }
  | _ => none }
def fnExactHeaviestAtRow : OpenClaim := { program := "ytmpccakgpahpoaa", sum := "70c92984a36c0cdee5616946b903b34babce14bb6cda057f09c5329a6deebb40", func := "loop.example/g00932/laws.FnExactHeaviestAt", spec := "fnExactHeaviestAt", unfollowed := true, recurses := true, apart := false }
def FnExactHeaviestAtSaid : Prop := fnExactHeaviestAtRow.holds Try.pinned (OpenSpec.ofChange fnExactHeaviestAtSpec)

/-- ITS FALSE NEIGHBOUR: 'it returns false'. Refute it at one input. -/
def fnExactHeaviestAtWrong : ChangeSpec := { name := "fnExactHeaviestAt", fn := fun _ => fun
  | [d1, d2] => { results := [.lit (.bool false)], args := [d1, d2] }
  | _ => none }
def FnExactHeaviestAtWrongFalsely : Prop := fnExactHeaviestAtRow.holds Try.pinned (OpenSpec.ofChange fnExactHeaviestAtWrong)

/-- 'laws.FnExactStartStates': WHATEVER THE INPUT: true; the input reads as it did. -/
def fnExactStartStatesSpec : ChangeSpec := { name := "fnExactStartStates", fn := fun _ => fun
  | [d] => { results := [.lit (.bool true)], args := [d] }
  | _ => none }
def fnExactStartStatesRow : OpenClaim := { program := "ytmpccakgpahpoaa", sum := "70c92984a36c0cdee5616946b903b34babce14bb6cda057f09c5329a6deebb40", func := "loop.example/g00932/laws.FnExactStartStates", spec := "fnExactStartStates", apart := false }
def FnExactStartStatesSaid : Prop := fnExactStartStatesRow.holds Try.pinned (OpenSpec.ofChange fnExactStartStatesSpec)

/-- ITS FALSE NEIGHBOUR: 'it returns false'. Refute it at one input. -/
def fnExactStartStatesWrong : ChangeSpec := { name := "fnExactStartStates", fn := fun _ => fun
  | [d] => { results := [.lit (.bool false)], args := [d] }
  | _ => none }
def FnExactStartStatesWrongFalsely : Prop := fnExactStartStatesRow.holds Try.pinned (OpenSpec.ofChange fnExactStartStatesWrong)

/-- 'laws.FnExactNeighboursOf': WHATEVER THE INPUT: true; the input reads as it did. -/
def fnExactNeighboursOfSpec : ChangeSpec := { name := "fnExactNeighboursOf", fn := fun _ => fun
  | [d1, d2] => { results := [.lit (.bool true)], args := [d1, d2] }
  | _ => none }
def fnExactNeighboursOfRow : OpenClaim := { program := "ytmpccakgpahpoaa", sum := "70c92984a36c0cdee5616946b903b34babce14bb6cda057f09c5329a6deebb40", func := "loop.example/g00932/laws.FnExactNeighboursOf", spec := "fnExactNeighboursOf", unfollowed := true, recurses := true, apart := false }
def FnExactNeighboursOfSaid : Prop := fnExactNeighboursOfRow.holds Try.pinned (OpenSpec.ofChange fnExactNeighboursOfSpec)

/-- ITS FALSE NEIGHBOUR: 'it returns false'. Refute it at one input. -/
def fnExactNeighboursOfWrong : ChangeSpec := { name := "fnExactNeighboursOf", fn := fun _ => fun
  | [d1, d2] => { results := [.lit (.bool false)], args := [d1, d2] }
  | _ => none }
def FnExactNeighboursOfWrongFalsely : Prop := fnExactNeighboursOfRow.holds Try.pinned (OpenSpec.ofChange fnExactNeighboursOfWrong)

/-- 'laws.FnExactCoverOf': WHATEVER THE INPUT: true; the input reads as it did. -/
def fnExactCoverOfSpec : ChangeSpec := { name := "fnExactCoverOf", fn := fun _ => fun
  | [d1, d2] => { results := [.lit (.bool true)], args := [d1, d2] }
  | _ => none }
def fnExactCoverOfRow : OpenClaim := { program := "ytmpccakgpahpoaa", sum := "70c92984a36c0cdee5616946b903b34babce14bb6cda057f09c5329a6deebb40", func := "loop.example/g00932/laws.FnExactCoverOf", spec := "fnExactCoverOf", unfollowed := true, recurses := true, apart := false }
def FnExactCoverOfSaid : Prop := fnExactCoverOfRow.holds Try.pinned (OpenSpec.ofChange fnExactCoverOfSpec)

/-- ITS FALSE NEIGHBOUR: 'it returns false'. Refute it at one input. -/
def fnExactCoverOfWrong : ChangeSpec := { name := "fnExactCoverOf", fn := fun _ => fun
  | [d1, d2] => { results := [.lit (.bool false)], args := [d1, d2] }
  | _ => none }
def FnExactCoverOfWrongFalsely : Prop := fnExactCoverOfRow.holds Try.pinned (OpenSpec.ofChange fnExactCoverOfWrong)

/- THE SECOND FORM. 'bulk': how many values and letters a reading holds, each counted each time it is reached (what is shared counts as often as it is met; a slice's spare places count too). A statement '..UptoSaid' is the law's where the arguments, and the package variables that the reading takes, are together of bulk at most 1048576: NARROWER than '..Said'. Prove '..Said' where nothing that the law and all that it calls make is longer than what came in: it says more and counts as full. Else prove '..UptoSaid'. A law counts once. -/
mutual
def uptoBulk {H : Type} : DataW H → Nat
  | .lit (.string bytes) => bytes.length + 1
  | .lit _ => 1
  | .nil => 1
  | .ptr d => uptoBulk d + 1
  | .slice elems spare => uptoBulkAll elems + uptoBulkAll spare + 1
  | .agg parts => uptoBulkAll parts + 1
  | .iface _ d => uptoBulk d + 1
  | .map entries => uptoBulkEntries entries + 1
  | .held _ => 1
def uptoBulkAll {H : Type} : List (DataW H) → Nat
  | [] => 0
  | d :: r => uptoBulk d + uptoBulkAll r
def uptoBulkEntries {H : Type} : List (Lit × DataW H) → Nat
  | [] => 0
  | x :: r => uptoBulkEntry x + uptoBulkEntries r
def uptoBulkEntry {H : Type} : Lit × DataW H → Nat
  | (.string bytes, d) => bytes.length + uptoBulk d + 1
  | (_, d) => uptoBulk d + 1
 end
def uptoSmall : (H : Type) → List (DataW H) → Bool := fun _ ds => decide (uptoBulkAll ds ≤ 1048576)
def OpenSpec.upto (s : _root_.Go.ChangeSpec) : _root_.Go.OpenSpec := { _root_.Go.OpenSpec.ofChange s with cond := some uptoSmall }

/-- 'laws.FnExactValidTasks', WHERE WHAT IT READS IS OF BULK AT MOST 1048576: true; the input reads as it did. -/
def fnExactValidTasksUptoRow : OpenClaim := { program := "ytmpccakgpahpoaa", sum := "70c92984a36c0cdee5616946b903b34babce14bb6cda057f09c5329a6deebb40", func := "loop.example/g00932/laws.FnExactValidTasks", spec := "fnExactValidTasks", apart := false, narrowed := true }
def FnExactValidTasksUptoSaid : Prop := fnExactValidTasksUptoRow.holds Try.pinned (OpenSpec.upto fnExactValidTasksSpec)

/-- 'laws.FnExactValidSite', WHERE WHAT IT READS IS OF BULK AT MOST 1048576: true; the input reads as it did. -/
def fnExactValidSiteUptoRow : OpenClaim := { program := "ytmpccakgpahpoaa", sum := "70c92984a36c0cdee5616946b903b34babce14bb6cda057f09c5329a6deebb40", func := "loop.example/g00932/laws.FnExactValidSite", spec := "fnExactValidSite", apart := false, narrowed := true }
def FnExactValidSiteUptoSaid : Prop := fnExactValidSiteUptoRow.holds Try.pinned (OpenSpec.upto fnExactValidSiteSpec)

/-- 'laws.FnExactCraneNamed', WHERE WHAT IT READS IS OF BULK AT MOST 1048576: true; the input reads as it did. -/
def fnExactCraneNamedUptoRow : OpenClaim := { program := "ytmpccakgpahpoaa", sum := "70c92984a36c0cdee5616946b903b34babce14bb6cda057f09c5329a6deebb40", func := "loop.example/g00932/laws.FnExactCraneNamed", spec := "fnExactCraneNamed", unfollowed := true, recurses := true, apart := false, narrowed := true }
def FnExactCraneNamedUptoSaid : Prop := fnExactCraneNamedUptoRow.holds Try.pinned (OpenSpec.upto fnExactCraneNamedSpec)

/-- 'laws.FnExactMergeEvents', WHERE WHAT IT READS IS OF BULK AT MOST 1048576: true; the input reads as it did. -/
def fnExactMergeEventsUptoRow : OpenClaim := { program := "ytmpccakgpahpoaa", sum := "70c92984a36c0cdee5616946b903b34babce14bb6cda057f09c5329a6deebb40", func := "loop.example/g00932/laws.FnExactMergeEvents", spec := "fnExactMergeEvents", unfollowed := true, recurses := true, apart := false, narrowed := true }
def FnExactMergeEventsUptoSaid : Prop := fnExactMergeEventsUptoRow.holds Try.pinned (OpenSpec.upto fnExactMergeEventsSpec)

/-- 'laws.FnExactHeaviestAt', WHERE WHAT IT READS IS OF BULK AT MOST 1048576: true; the input reads as it did. -/
def fnExactHeaviestAtUptoRow : OpenClaim := { program := "ytmpccakgpahpoaa", sum := "70c92984a36c0cdee5616946b903b34babce14bb6cda057f09c5329a6deebb40", func := "loop.example/g00932/laws.FnExactHeaviestAt", spec := "fnExactHeaviestAt", unfollowed := true, recurses := true, apart := false, narrowed := true }
def FnExactHeaviestAtUptoSaid : Prop := fnExactHeaviestAtUptoRow.holds Try.pinned (OpenSpec.upto fnExactHeaviestAtSpec)

/-- 'laws.FnExactStartStates', WHERE WHAT IT READS IS OF BULK AT MOST 1048576: true; the input reads as it did. -/
def fnExactStartStatesUptoRow : OpenClaim := { program := "ytmpccakgpahpoaa", sum := "70c92984a36c0cdee5616946b903b34babce14bb6cda057f09c5329a6deebb40", func := "loop.example/g00932/laws.FnExactStartStates", spec := "fnExactStartStates", apart := false, narrowed := true }
def FnExactStartStatesUptoSaid : Prop := fnExactStartStatesUptoRow.holds Try.pinned (OpenSpec.upto fnExactStartStatesSpec)

/-- 'laws.FnExactNeighboursOf', WHERE WHAT IT READS IS OF BULK AT MOST 1048576: true; the input reads as it did. -/
def fnExactNeighboursOfUptoRow : OpenClaim := { program := "ytmpccakgpahpoaa", sum := "70c92984a36c0cdee5616946b903b34babce14bb6cda057f09c5329a6deebb40", func := "loop.example/g00932/laws.FnExactNeighboursOf", spec := "fnExactNeighboursOf", unfollowed := true, recurses := true, apart := false, narrowed := true }
def FnExactNeighboursOfUptoSaid : Prop := fnExactNeighboursOfUptoRow.holds Try.pinned (OpenSpec.upto fnExactNeighboursOfSpec)

/-- 'laws.FnExactCoverOf', WHERE WHAT IT READS IS OF BULK AT MOST 1048576: true; the input reads as it did. -/
def fnExactCoverOfUptoRow : OpenClaim := { program := "ytmpccakgpahpoaa", sum := "70c92984a36c0cdee5616946b903b34babce14bb6cda057f09c5329a6deebb40", func := "loop.example/g00932/laws.FnExactCoverOf", spec := "fnExactCoverOf", unfollowed := true, recurses := true, apart := false, narrowed := true }
def FnExactCoverOfUptoSaid : Prop := fnExactCoverOfUptoRow.holds Try.pinned (OpenSpec.upto fnExactCoverOfSpec)

end Rows
end Go.Proofs.Ytmpccakgpahpoaa
