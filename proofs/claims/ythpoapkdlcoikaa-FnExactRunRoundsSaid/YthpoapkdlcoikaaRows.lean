/-
  No cell of these rows narrows 'for every input' (looked for: loops, veiled, ifaces, maps, wideKeys, modest, calm, conditions, laid).
  DERIVED. THE GIVEN ROWS OF THIS SEAT. 10 by the template 'for every input the law returns true; each argument reads behind the call as it read before'; 0 by the template 'total and deterministic' (their statements: YthpoapkdlcoikaaTotals.lean).
  GIVEN WITH THE SEED: the statements are not yours to turn. If you find one false, say at which input.
  Laid BY PROGRAM, IN A SANDBOX (cutbox-rows.mjs): the forced cells as the released guide's own fill.sh prints them over the translation 19cbdcfd7752be48… (all of the seat's roots in one cut). By AI agents, Wed Nov 11 2026. No macro, syntax, notation, axiom, sorry.
-/
import Derived.Test.YthpoapkdlcoikaaChecked
import GoSem.Claim
import GoSem.ClaimJoined
import GoSem.ClaimMapViews
import Derived.JoinedTies
import Derived.KernelRfl
namespace Go.Proofs.Ythpoapkdlcoikaa
/- THE CELL 'sum', in the pinned program and in every row, IS THE sha256 OF THE DUMP (.gsa) THAT YthpoapkdlcoikaaProg.lean LOADS. Nothing in Lean hashes anything: it is a label: what it is worth is what the hold of that sum in a sandbox is worth. -/
noncomputable def Try.pinned : Pinned := { name := "ythpoapkdlcoikaa", sum := "19cbdcfd7752be48a8134a2c5e4cddbf3357b7aca75ca52f5dad7fc22ab091cd", checked := Try.checked }
namespace Rows
def none {H : Type} : Left H := { results := [], args := [] }

/-- 'laws.FnExactAloneRoute': WHATEVER THE INPUT: true; the input reads as it did. -/
def fnExactAloneRouteSpec : ChangeSpec := { name := "fnExactAloneRoute", fn := fun _ => fun
  | [d1, d2, d3] => { results := [.lit (.bool true)], args := [d1, d2, d3] }
  | _ => none }
def fnExactAloneRouteRow : OpenClaim := { program := "ythpoapkdlcoikaa", sum := "19cbdcfd7752be48a8134a2c5e4cddbf3357b7aca75ca52f5dad7fc22ab091cd", func := "loop.example/g00932/laws.FnExactAloneRoute", spec := "fnExactAloneRoute", unfollowed := true, recurses := true, apart := false }
def FnExactAloneRouteSaid : Prop := fnExactAloneRouteRow.holds Try.pinned (OpenSpec.ofChange fnExactAloneRouteSpec)

/-- ITS FALSE NEIGHBOUR: 'it returns false'. Refute it at one input. -/
def fnExactAloneRouteWrong : ChangeSpec := { name := "fnExactAloneRoute", fn := fun _ => fun
  | [d1, d2, d3] => { results := [.lit (.bool false)], args := [d1, d2, d3] }
  | _ => none }
def FnExactAloneRouteWrongFalsely : Prop := fnExactAloneRouteRow.holds Try.pinned (OpenSpec.ofChange fnExactAloneRouteWrong)

/-- 'laws.FnExactCheckRoute': WHATEVER THE INPUT: true; the input reads as it did. -/
def fnExactCheckRouteSpec : ChangeSpec := { name := "fnExactCheckRoute", fn := fun _ => fun
  | [d1, d2] => { results := [.lit (.bool true)], args := [d1, d2] }
  | _ => none }
def fnExactCheckRouteRow : OpenClaim := { program := "ythpoapkdlcoikaa", sum := "19cbdcfd7752be48a8134a2c5e4cddbf3357b7aca75ca52f5dad7fc22ab091cd", func := "loop.example/g00932/laws.FnExactCheckRoute", spec := "fnExactCheckRoute", unfollowed := true, recurses := true, apart := false }
def FnExactCheckRouteSaid : Prop := fnExactCheckRouteRow.holds Try.pinned (OpenSpec.ofChange fnExactCheckRouteSpec)

/-- ITS FALSE NEIGHBOUR: 'it returns false'. Refute it at one input. -/
def fnExactCheckRouteWrong : ChangeSpec := { name := "fnExactCheckRoute", fn := fun _ => fun
  | [d1, d2] => { results := [.lit (.bool false)], args := [d1, d2] }
  | _ => none }
def FnExactCheckRouteWrongFalsely : Prop := fnExactCheckRouteRow.holds Try.pinned (OpenSpec.ofChange fnExactCheckRouteWrong)

/-- 'laws.FnExactStepsFrom': WHATEVER THE INPUT: true; the input reads as it did. -/
def fnExactStepsFromSpec : ChangeSpec := { name := "fnExactStepsFrom", fn := fun _ => fun
  | [d1, d2] => { results := [.lit (.bool true)], args := [d1, d2] }
  | _ => none }
def fnExactStepsFromRow : OpenClaim := { program := "ythpoapkdlcoikaa", sum := "19cbdcfd7752be48a8134a2c5e4cddbf3357b7aca75ca52f5dad7fc22ab091cd", func := "loop.example/g00932/laws.FnExactStepsFrom", spec := "fnExactStepsFrom", unfollowed := true, recurses := true, apart := false }
def FnExactStepsFromSaid : Prop := fnExactStepsFromRow.holds Try.pinned (OpenSpec.ofChange fnExactStepsFromSpec)

/-- ITS FALSE NEIGHBOUR: 'it returns false'. Refute it at one input. -/
def fnExactStepsFromWrong : ChangeSpec := { name := "fnExactStepsFrom", fn := fun _ => fun
  | [d1, d2] => { results := [.lit (.bool false)], args := [d1, d2] }
  | _ => none }
def FnExactStepsFromWrongFalsely : Prop := fnExactStepsFromRow.holds Try.pinned (OpenSpec.ofChange fnExactStepsFromWrong)

/-- 'laws.FnExactRouteLength': WHATEVER THE INPUT: true; the input reads as it did. -/
def fnExactRouteLengthSpec : ChangeSpec := { name := "fnExactRouteLength", fn := fun _ => fun
  | [d1, d2, d3] => { results := [.lit (.bool true)], args := [d1, d2, d3] }
  | _ => none }
def fnExactRouteLengthRow : OpenClaim := { program := "ythpoapkdlcoikaa", sum := "19cbdcfd7752be48a8134a2c5e4cddbf3357b7aca75ca52f5dad7fc22ab091cd", func := "loop.example/g00932/laws.FnExactRouteLength", spec := "fnExactRouteLength", unfollowed := true, recurses := true, apart := false }
def FnExactRouteLengthSaid : Prop := fnExactRouteLengthRow.holds Try.pinned (OpenSpec.ofChange fnExactRouteLengthSpec)

/-- ITS FALSE NEIGHBOUR: 'it returns false'. Refute it at one input. -/
def fnExactRouteLengthWrong : ChangeSpec := { name := "fnExactRouteLength", fn := fun _ => fun
  | [d1, d2, d3] => { results := [.lit (.bool false)], args := [d1, d2, d3] }
  | _ => none }
def FnExactRouteLengthWrongFalsely : Prop := fnExactRouteLengthRow.holds Try.pinned (OpenSpec.ofChange fnExactRouteLengthWrong)

/-- 'laws.FnExactRunRound': WHATEVER THE INPUT: true; the input reads as it did. -/
def fnExactRunRoundSpec : ChangeSpec := { name := "fnExactRunRound", fn := fun _ => fun
  | [d1, d2, d3, d4, d5] => { results := [.lit (.bool true)], args := [d1, d2, d3, d4, d5] }
  | _ => none }
def fnExactRunRoundRow : OpenClaim := { program := "ythpoapkdlcoikaa", sum := "19cbdcfd7752be48a8134a2c5e4cddbf3357b7aca75ca52f5dad7fc22ab091cd", func := "loop.example/g00932/laws.FnExactRunRound", spec := "fnExactRunRound", unfollowed := true, recurses := true, apart := false }
def FnExactRunRoundSaid : Prop := fnExactRunRoundRow.holds Try.pinned (OpenSpec.ofChange fnExactRunRoundSpec)

/-- ITS FALSE NEIGHBOUR: 'it returns false'. Refute it at one input. -/
def fnExactRunRoundWrong : ChangeSpec := { name := "fnExactRunRound", fn := fun _ => fun
  | [d1, d2, d3, d4, d5] => { results := [.lit (.bool false)], args := [d1, d2, d3, d4, d5] }
  | _ => none }
def FnExactRunRoundWrongFalsely : Prop := fnExactRunRoundRow.holds Try.pinned (OpenSpec.ofChange fnExactRunRoundWrong)

/-- 'laws.FnExactCountReached': WHATEVER THE INPUT: true; the input reads as it did. -/
def fnExactCountReachedSpec : ChangeSpec := { name := "fnExactCountReached", fn := fun _ => fun
  | [d1, d2] => { results := [.lit (.bool true)], args := [d1, d2] }
  | _ => none }
def fnExactCountReachedRow : OpenClaim := { program := "ythpoapkdlcoikaa", sum := "19cbdcfd7752be48a8134a2c5e4cddbf3357b7aca75ca52f5dad7fc22ab091cd", func := "loop.example/g00932/laws.FnExactCountReached", spec := "fnExactCountReached", unfollowed := true, recurses := true, apart := false }
def FnExactCountReachedSaid : Prop := fnExactCountReachedRow.holds Try.pinned (OpenSpec.ofChange fnExactCountReachedSpec)

/-- ITS FALSE NEIGHBOUR: 'it returns false'. Refute it at one input. -/
def fnExactCountReachedWrong : ChangeSpec := { name := "fnExactCountReached", fn := fun _ => fun
  | [d1, d2] => { results := [.lit (.bool false)], args := [d1, d2] }
  | _ => none }
def FnExactCountReachedWrongFalsely : Prop := fnExactCountReachedRow.holds Try.pinned (OpenSpec.ofChange fnExactCountReachedWrong)

/-- 'laws.FnExactFarthestState': WHATEVER THE INPUT: true; the input reads as it did. -/
def fnExactFarthestStateSpec : ChangeSpec := { name := "fnExactFarthestState", fn := fun _ => fun
  | [d1, d2] => { results := [.lit (.bool true)], args := [d1, d2] }
  | _ => none }
def fnExactFarthestStateRow : OpenClaim := { program := "ythpoapkdlcoikaa", sum := "19cbdcfd7752be48a8134a2c5e4cddbf3357b7aca75ca52f5dad7fc22ab091cd", func := "loop.example/g00932/laws.FnExactFarthestState", spec := "fnExactFarthestState", unfollowed := true, recurses := true, apart := false }
def FnExactFarthestStateSaid : Prop := fnExactFarthestStateRow.holds Try.pinned (OpenSpec.ofChange fnExactFarthestStateSpec)

/-- ITS FALSE NEIGHBOUR: 'it returns false'. Refute it at one input. -/
def fnExactFarthestStateWrong : ChangeSpec := { name := "fnExactFarthestState", fn := fun _ => fun
  | [d1, d2] => { results := [.lit (.bool false)], args := [d1, d2] }
  | _ => none }
def FnExactFarthestStateWrongFalsely : Prop := fnExactFarthestStateRow.holds Try.pinned (OpenSpec.ofChange fnExactFarthestStateWrong)

/-- 'laws.FnExactLengthsFrom': WHATEVER THE INPUT: true; the input reads as it did. -/
def fnExactLengthsFromSpec : ChangeSpec := { name := "fnExactLengthsFrom", fn := fun _ => fun
  | [d1, d2] => { results := [.lit (.bool true)], args := [d1, d2] }
  | _ => none }
def fnExactLengthsFromRow : OpenClaim := { program := "ythpoapkdlcoikaa", sum := "19cbdcfd7752be48a8134a2c5e4cddbf3357b7aca75ca52f5dad7fc22ab091cd", func := "loop.example/g00932/laws.FnExactLengthsFrom", spec := "fnExactLengthsFrom", unfollowed := true, recurses := true, apart := false }
def FnExactLengthsFromSaid : Prop := fnExactLengthsFromRow.holds Try.pinned (OpenSpec.ofChange fnExactLengthsFromSpec)

/-- ITS FALSE NEIGHBOUR: 'it returns false'. Refute it at one input. -/
def fnExactLengthsFromWrong : ChangeSpec := { name := "fnExactLengthsFrom", fn := fun _ => fun
  | [d1, d2] => { results := [.lit (.bool false)], args := [d1, d2] }
  | _ => none }
def FnExactLengthsFromWrongFalsely : Prop := fnExactLengthsFromRow.holds Try.pinned (OpenSpec.ofChange fnExactLengthsFromWrong)

/-- 'laws.FnExactRunRounds': WHATEVER THE INPUT: true; the input reads as it did. -/
def fnExactRunRoundsSpec : ChangeSpec := { name := "fnExactRunRounds", fn := fun _ => fun
  | [d1, d2, d3, d4, d5] => { results := [.lit (.bool true)], args := [d1, d2, d3, d4, d5] }
  | _ => none }
def fnExactRunRoundsRow : OpenClaim := { program := "ythpoapkdlcoikaa", sum := "19cbdcfd7752be48a8134a2c5e4cddbf3357b7aca75ca52f5dad7fc22ab091cd", func := "loop.example/g00932/laws.FnExactRunRounds", spec := "fnExactRunRounds", unfollowed := true, recurses := true, apart := false }
def FnExactRunRoundsSaid : Prop := fnExactRunRoundsRow.holds Try.pinned (OpenSpec.ofChange fnExactRunRoundsSpec)

/-- ITS FALSE NEIGHBOUR: 'it returns false'. Refute it at one input. -/
def fnExactRunRoundsWrong : ChangeSpec := { name := "fnExactRunRounds", fn := fun _ => fun
  | [d1, d2, d3, d4, d5] => { results := [.lit (.bool false)], args := [d1, d2, d3, d4, d5] }
  | _ => none }
def FnExactRunRoundsWrongFalsely : Prop := fnExactRunRoundsRow.holds Try.pinned (OpenSpec.ofChange fnExactRunRoundsWrong)

/-- 'laws.FnExactFindRoute': WHATEVER THE INPUT: true; the input reads as it did. -/
def fnExactFindRouteSpec : ChangeSpec := { name := "fnExactFindRoute", fn := fun _ => fun
  | [d1, d2, d3] => { results := [.lit (.bool true)], args := [d1, d2, d3] }
  | _ => none }
def fnExactFindRouteRow : OpenClaim := { program := "ythpoapkdlcoikaa", sum := "19cbdcfd7752be48a8134a2c5e4cddbf3357b7aca75ca52f5dad7fc22ab091cd", func := "loop.example/g00932/laws.FnExactFindRoute", spec := "fnExactFindRoute", unfollowed := true, recurses := true, apart := false }
def FnExactFindRouteSaid : Prop := fnExactFindRouteRow.holds Try.pinned (OpenSpec.ofChange fnExactFindRouteSpec)

/-- ITS FALSE NEIGHBOUR: 'it returns false'. Refute it at one input. -/
def fnExactFindRouteWrong : ChangeSpec := { name := "fnExactFindRoute", fn := fun _ => fun
  | [d1, d2, d3] => { results := [.lit (.bool false)], args := [d1, d2, d3] }
  | _ => none }
def FnExactFindRouteWrongFalsely : Prop := fnExactFindRouteRow.holds Try.pinned (OpenSpec.ofChange fnExactFindRouteWrong)

/- THE SECOND FORM. 'bulk': how many values and letters a reading holds, each counted each time it is reached (what is shared counts as often as it is met; a slice's spare places count too). A statement '..UptoSaid' is the law's where the arguments, and the package variables that the reading takes, are together of bulk at most 1048576: NARROWER than '..Said'. Prove '..Said' where nothing that the law and all that it calls make is longer than what came in: it says more and counts as full. Else prove '..UptoSaid'. A law counts once. -/
mutual
def uptoBulk {H : Type} : DataW H → Nat
  | .lit (.string bytes) => bytes.length + 1
  | .lit _ => 1
  | .nil => 1
  | .ptr d => uptoBulk d + 1
  | .slice elems spare => uptoBulkAll elems + uptoBulkAll spare + 1
  | .agg parts => uptoBulkAll parts + 1
  | .iface _ d => uptoBulk d + 1
  | .map entries => uptoBulkEntries entries + 1
  | .held _ => 1
def uptoBulkAll {H : Type} : List (DataW H) → Nat
  | [] => 0
  | d :: r => uptoBulk d + uptoBulkAll r
def uptoBulkEntries {H : Type} : List (Lit × DataW H) → Nat
  | [] => 0
  | x :: r => uptoBulkEntry x + uptoBulkEntries r
def uptoBulkEntry {H : Type} : Lit × DataW H → Nat
  | (.string bytes, d) => bytes.length + uptoBulk d + 1
  | (_, d) => uptoBulk d + 1
 end
def uptoSmall : (H : Type) → List (DataW H) → Bool := fun _ ds => decide (uptoBulkAll ds ≤ 1048576)
def OpenSpec.upto (s : _root_.Go.ChangeSpec) : _root_.Go.OpenSpec := { _root_.Go.OpenSpec.ofChange s with cond := some uptoSmall }

/-- 'laws.FnExactAloneRoute', WHERE WHAT IT READS IS OF BULK AT MOST 1048576: true; the input reads as it did. -/
def fnExactAloneRouteUptoRow : OpenClaim := { program := "ythpoapkdlcoikaa", sum := "19cbdcfd7752be48a8134a2c5e4cddbf3357b7aca75ca52f5dad7fc22ab091cd", func := "loop.example/g00932/laws.FnExactAloneRoute", spec := "fnExactAloneRoute", unfollowed := true, recurses := true, apart := false, narrowed := true }
def FnExactAloneRouteUptoSaid : Prop := fnExactAloneRouteUptoRow.holds Try.pinned (OpenSpec.upto fnExactAloneRouteSpec)

/-- 'laws.FnExactCheckRoute', WHERE WHAT IT READS IS OF BULK AT MOST 1048576: true; the input reads as it did. -/
def fnExactCheckRouteUptoRow : OpenClaim := { program := "ythpoapkdlcoikaa", sum := "19cbdcfd7752be48a8134a2c5e4cddbf3357b7aca75ca52f5dad7fc22ab091cd", func := "loop.example/g00932/laws.FnExactCheckRoute", spec := "fnExactCheckRoute", unfollowed := true, recurses := true, apart := false, narrowed := true }
def FnExactCheckRouteUptoSaid : Prop := fnExactCheckRouteUptoRow.holds Try.pinned (OpenSpec.upto fnExactCheckRouteSpec)

/-- 'laws.FnExactStepsFrom', WHERE WHAT IT READS IS OF BULK AT MOST 1048576: true; the input reads as it did. -/
def fnExactStepsFromUptoRow : OpenClaim := { program := "ythpoapkdlcoikaa", sum := "19cbdcfd7752be48a8134a2c5e4cddbf3357b7aca75ca52f5dad7fc22ab091cd", func := "loop.example/g00932/laws.FnExactStepsFrom", spec := "fnExactStepsFrom", unfollowed := true, recurses := true, apart := false, narrowed := true }
def FnExactStepsFromUptoSaid : Prop := fnExactStepsFromUptoRow.holds Try.pinned (OpenSpec.upto fnExactStepsFromSpec)

/-- 'laws.FnExactRouteLength', WHERE WHAT IT READS IS OF BULK AT MOST 1048576: true; the input reads as it did. -/
def fnExactRouteLengthUptoRow : OpenClaim := { program := "ythpoapkdlcoikaa", sum := "19cbdcfd7752be48a8134a2c5e4cddbf3357b7aca75ca52f5dad7fc22ab091cd", func := "loop.example/g00932/laws.FnExactRouteLength", spec := "fnExactRouteLength", unfollowed := true, recurses := true, apart := false, narrowed := true }
def FnExactRouteLengthUptoSaid : Prop := fnExactRouteLengthUptoRow.holds Try.pinned (OpenSpec.upto fnExactRouteLengthSpec)

/-- 'laws.FnExactRunRound', WHERE WHAT IT READS IS OF BULK AT MOST 1048576: true; the input reads as it did. -/
def fnExactRunRoundUptoRow : OpenClaim := { program := "ythpoapkdlcoikaa", sum := "19cbdcfd7752be48a8134a2c5e4cddbf3357b7aca75ca52f5dad7fc22ab091cd", func := "loop.example/g00932/laws.FnExactRunRound", spec := "fnExactRunRound", unfollowed := true, recurses := true, apart := false, narrowed := true }
def FnExactRunRoundUptoSaid : Prop := fnExactRunRoundUptoRow.holds Try.pinned (OpenSpec.upto fnExactRunRoundSpec)

/-- 'laws.FnExactCountReached', WHERE WHAT IT READS IS OF BULK AT MOST 1048576: true; the input reads as it did. -/
def fnExactCountReachedUptoRow : OpenClaim := { program := "ythpoapkdlcoikaa", sum := "19cbdcfd7752be48a8134a2c5e4cddbf3357b7aca75ca52f5dad7fc22ab091cd", func := "loop.example/g00932/laws.FnExactCountReached", spec := "fnExactCountReached", unfollowed := true, recurses := true, apart := false, narrowed := true }
def FnExactCountReachedUptoSaid : Prop := fnExactCountReachedUptoRow.holds Try.pinned (OpenSpec.upto fnExactCountReachedSpec)

/-- 'laws.FnExactFarthestState', WHERE WHAT IT READS IS OF BULK AT MOST 1048576: true; the input reads as it did. -/
def fnExactFarthestStateUptoRow : OpenClaim := { program := "ythpoapkdlcoikaa", sum := "19cbdcfd7752be48a8134a2c5e4cddbf3357b7aca75ca52f5dad7fc22ab091cd", func := "loop.example/g00932/laws.FnExactFarthestState", spec := "fnExactFarthestState", unfollowed := true, recurses := true, apart := false, narrowed := true }
def FnExactFarthestStateUptoSaid : Prop := fnExactFarthestStateUptoRow.holds Try.pinned (OpenSpec.upto fnExactFarthestStateSpec)

/-- 'laws.FnExactLengthsFrom', WHERE WHAT IT READS IS OF BULK AT MOST 1048576: true; the input reads as it did. -/
def fnExactLengthsFromUptoRow : OpenClaim := { program := "ythpoapkdlcoikaa", sum := "19cbdcfd7752be48a8134a2c5e4cddbf3357b7aca75ca52f5dad7fc22ab091cd", func := "loop.example/g00932/laws.FnExactLengthsFrom", spec := "fnExactLengthsFrom", unfollowed := true, recurses := true, apart := false, narrowed := true }
def FnExactLengthsFromUptoSaid : Prop := fnExactLengthsFromUptoRow.holds Try.pinned (OpenSpec.upto fnExactLengthsFromSpec)

/-- 'laws.FnExactRunRounds', WHERE WHAT IT READS IS OF BULK AT MOST 1048576: true; the input reads as it did. -/
def fnExactRunRoundsUptoRow : OpenClaim := { program := "ythpoapkdlcoikaa", sum := "19cbdcfd7752be48a8134a2c5e4cddbf3357b7aca75ca52f5dad7fc22ab091cd", func := "loop.example/g00932/laws.FnExactRunRounds", spec := "fnExactRunRounds", unfollowed := true, recurses := true, apart := false, narrowed := true }
def FnExactRunRoundsUptoSaid : Prop := fnExactRunRoundsUptoRow.holds Try.pinned (OpenSpec.upto fnExactRunRoundsSpec)

/-- 'laws.FnExactFindRoute', WHERE WHAT IT READS IS OF BULK AT MOST 1048576: true; the input reads as it did. -/
def fnExactFindRouteUptoRow : OpenClaim := { program := "ythpoapkdlcoikaa", sum := "19cbdcfd7752be48a8134a2c5e4cddbf3357b7aca75ca52f5dad7fc22ab091cd", func := "loop.example/g00932/laws.FnExactFindRoute", spec := "fnExactFindRoute", unfollowed := true, recurses := true, apart := false, narrowed := true }
def FnExactFindRouteUptoSaid : Prop := fnExactFindRouteUptoRow.holds Try.pinned (OpenSpec.upto fnExactFindRouteSpec)

end Rows
end Go.Proofs.Ythpoapkdlcoikaa
