/-
  No cell of these rows narrows 'for every input' (looked for: loops, veiled, ifaces, maps, wideKeys, modest, calm, conditions, laid).
  DERIVED. THE GIVEN ROWS OF THIS SEAT. 10 by the template 'for every input the law returns true; each argument reads behind the call as it read before'; 0 by the template 'total and deterministic' (their statements: YtlinjlpcofhdhaaTotals.lean).
  GIVEN WITH THE SEED: the statements are not yours to turn. If you find one false, say at which input.
  Laid BY PROGRAM, IN A SANDBOX (cutbox-rows.mjs): the forced cells as the released guide's own fill.sh prints them over the translation 8ba838fa0ae35653… (all of the seat's roots in one cut). By AI agents, Wed Nov 11 2026. No macro, syntax, notation, axiom, sorry.
-/
import Derived.Test.YtlinjlpcofhdhaaChecked
import GoSem.Claim
import GoSem.ClaimJoined
import GoSem.ClaimMapViews
import Derived.JoinedTies
import Derived.KernelRfl
namespace Go.Proofs.Ytlinjlpcofhdhaa
/- THE CELL 'sum', in the pinned program and in every row, IS THE sha256 OF THE DUMP (.gsa) THAT YtlinjlpcofhdhaaProg.lean LOADS. Nothing in Lean hashes anything: it is a label: what it is worth is what the hold of that sum in a sandbox is worth. -/
noncomputable def Try.pinned : Pinned := { name := "ytlinjlpcofhdhaa", sum := "8ba838fa0ae356530f13ef918c6a39bbb6abc2bac3eaf41c49a607fbe0127e00", checked := Try.checked }
namespace Rows
def none {H : Type} : Left H := { results := [], args := [] }

/-- 'laws.FnExactPressureAt': WHATEVER THE INPUT: true; the input reads as it did. -/
def fnExactPressureAtSpec : ChangeSpec := { name := "fnExactPressureAt", fn := fun _ => fun
  | [d] => { results := [.lit (.bool true)], args := [d] }
  | _ => none }
def fnExactPressureAtRow : OpenClaim := { program := "ytlinjlpcofhdhaa", sum := "8ba838fa0ae356530f13ef918c6a39bbb6abc2bac3eaf41c49a607fbe0127e00", func := "loop.example/g00932/laws.FnExactPressureAt", spec := "fnExactPressureAt", apart := false }
def FnExactPressureAtSaid : Prop := fnExactPressureAtRow.holds Try.pinned (OpenSpec.ofChange fnExactPressureAtSpec)

/-- ITS FALSE NEIGHBOUR: 'it returns false'. Refute it at one input. -/
def fnExactPressureAtWrong : ChangeSpec := { name := "fnExactPressureAt", fn := fun _ => fun
  | [d] => { results := [.lit (.bool false)], args := [d] }
  | _ => none }
def FnExactPressureAtWrongFalsely : Prop := fnExactPressureAtRow.holds Try.pinned (OpenSpec.ofChange fnExactPressureAtWrong)

/-- 'laws.FnExactValidReadings': WHATEVER THE INPUT: true; the input reads as it did. -/
def fnExactValidReadingsSpec : ChangeSpec := { name := "fnExactValidReadings", fn := fun _ => fun
  | [d] => { results := [.lit (.bool true)], args := [d] }
  | _ => none }
def fnExactValidReadingsRow : OpenClaim := { program := "ytlinjlpcofhdhaa", sum := "8ba838fa0ae356530f13ef918c6a39bbb6abc2bac3eaf41c49a607fbe0127e00", func := "loop.example/g00932/laws.FnExactValidReadings", spec := "fnExactValidReadings", apart := false }
def FnExactValidReadingsSaid : Prop := fnExactValidReadingsRow.holds Try.pinned (OpenSpec.ofChange fnExactValidReadingsSpec)

/-- ITS FALSE NEIGHBOUR: 'it returns false'. Refute it at one input. -/
def fnExactValidReadingsWrong : ChangeSpec := { name := "fnExactValidReadings", fn := fun _ => fun
  | [d] => { results := [.lit (.bool false)], args := [d] }
  | _ => none }
def FnExactValidReadingsWrongFalsely : Prop := fnExactValidReadingsRow.holds Try.pinned (OpenSpec.ofChange fnExactValidReadingsWrong)

/-- 'laws.FnExactSameReadings': WHATEVER THE INPUT: true; the input reads as it did. -/
def fnExactSameReadingsSpec : ChangeSpec := { name := "fnExactSameReadings", fn := fun _ => fun
  | [d1, d2] => { results := [.lit (.bool true)], args := [d1, d2] }
  | _ => none }
def fnExactSameReadingsRow : OpenClaim := { program := "ytlinjlpcofhdhaa", sum := "8ba838fa0ae356530f13ef918c6a39bbb6abc2bac3eaf41c49a607fbe0127e00", func := "loop.example/g00932/laws.FnExactSameReadings", spec := "fnExactSameReadings", apart := false }
def FnExactSameReadingsSaid : Prop := fnExactSameReadingsRow.holds Try.pinned (OpenSpec.ofChange fnExactSameReadingsSpec)

/-- ITS FALSE NEIGHBOUR: 'it returns false'. Refute it at one input. -/
def fnExactSameReadingsWrong : ChangeSpec := { name := "fnExactSameReadings", fn := fun _ => fun
  | [d1, d2] => { results := [.lit (.bool false)], args := [d1, d2] }
  | _ => none }
def FnExactSameReadingsWrongFalsely : Prop := fnExactSameReadingsRow.holds Try.pinned (OpenSpec.ofChange fnExactSameReadingsWrong)

/-- 'laws.FnExactSwingDirections': WHATEVER THE INPUT: true; the input reads as it did. -/
def fnExactSwingDirectionsSpec : ChangeSpec := { name := "fnExactSwingDirections", fn := fun _ => fun
  | [d1, d2] => { results := [.lit (.bool true)], args := [d1, d2] }
  | _ => none }
def fnExactSwingDirectionsRow : OpenClaim := { program := "ytlinjlpcofhdhaa", sum := "8ba838fa0ae356530f13ef918c6a39bbb6abc2bac3eaf41c49a607fbe0127e00", func := "loop.example/g00932/laws.FnExactSwingDirections", spec := "fnExactSwingDirections", apart := false }
def FnExactSwingDirectionsSaid : Prop := fnExactSwingDirectionsRow.holds Try.pinned (OpenSpec.ofChange fnExactSwingDirectionsSpec)

/-- ITS FALSE NEIGHBOUR: 'it returns false'. Refute it at one input. -/
def fnExactSwingDirectionsWrong : ChangeSpec := { name := "fnExactSwingDirections", fn := fun _ => fun
  | [d1, d2] => { results := [.lit (.bool false)], args := [d1, d2] }
  | _ => none }
def FnExactSwingDirectionsWrongFalsely : Prop := fnExactSwingDirectionsRow.holds Try.pinned (OpenSpec.ofChange fnExactSwingDirectionsWrong)

/-- 'laws.FnExactSmoothReadings': WHATEVER THE INPUT: true; the input reads as it did. -/
def fnExactSmoothReadingsSpec : ChangeSpec := { name := "fnExactSmoothReadings", fn := fun _ => fun
  | [d] => { results := [.lit (.bool true)], args := [d] }
  | _ => none }
def fnExactSmoothReadingsRow : OpenClaim := { program := "ytlinjlpcofhdhaa", sum := "8ba838fa0ae356530f13ef918c6a39bbb6abc2bac3eaf41c49a607fbe0127e00", func := "loop.example/g00932/laws.FnExactSmoothReadings", spec := "fnExactSmoothReadings", apart := false }
def FnExactSmoothReadingsSaid : Prop := fnExactSmoothReadingsRow.holds Try.pinned (OpenSpec.ofChange fnExactSmoothReadingsSpec)

/-- ITS FALSE NEIGHBOUR: 'it returns false'. Refute it at one input. -/
def fnExactSmoothReadingsWrong : ChangeSpec := { name := "fnExactSmoothReadings", fn := fun _ => fun
  | [d] => { results := [.lit (.bool false)], args := [d] }
  | _ => none }
def FnExactSmoothReadingsWrongFalsely : Prop := fnExactSmoothReadingsRow.holds Try.pinned (OpenSpec.ofChange fnExactSmoothReadingsWrong)

/-- 'laws.FnExactMeanWind': WHATEVER THE INPUT: true; the input reads as it did. -/
def fnExactMeanWindSpec : ChangeSpec := { name := "fnExactMeanWind", fn := fun _ => fun
  | [d1, d2, d3] => { results := [.lit (.bool true)], args := [d1, d2, d3] }
  | _ => none }
def fnExactMeanWindRow : OpenClaim := { program := "ytlinjlpcofhdhaa", sum := "8ba838fa0ae356530f13ef918c6a39bbb6abc2bac3eaf41c49a607fbe0127e00", func := "loop.example/g00932/laws.FnExactMeanWind", spec := "fnExactMeanWind", apart := false }
def FnExactMeanWindSaid : Prop := fnExactMeanWindRow.holds Try.pinned (OpenSpec.ofChange fnExactMeanWindSpec)

/-- ITS FALSE NEIGHBOUR: 'it returns false'. Refute it at one input. -/
def fnExactMeanWindWrong : ChangeSpec := { name := "fnExactMeanWind", fn := fun _ => fun
  | [d1, d2, d3] => { results := [.lit (.bool false)], args := [d1, d2, d3] }
  | _ => none }
def FnExactMeanWindWrongFalsely : Prop := fnExactMeanWindRow.holds Try.pinned (OpenSpec.ofChange fnExactMeanWindWrong)

/-- 'laws.FnStrengths': WHATEVER THE INPUT: true; the input reads as it did. -/
def fnStrengthsSpec : ChangeSpec := { name := "fnStrengths", fn := fun _ => fun
  | [d] => { results := [.lit (.bool true)], args := [d] }
  | _ => none }
def fnStrengthsRow : OpenClaim := { program := "ytlinjlpcofhdhaa", sum := "8ba838fa0ae356530f13ef918c6a39bbb6abc2bac3eaf41c49a607fbe0127e00", func := "loop.example/g00932/laws.FnStrengths", spec := "fnStrengths", apart := false }
def FnStrengthsSaid : Prop := fnStrengthsRow.holds Try.pinned (OpenSpec.ofChange fnStrengthsSpec)

/-- ITS FALSE NEIGHBOUR: 'it returns false'. Refute it at one input. -/
def fnStrengthsWrong : ChangeSpec := { name := "fnStrengths", fn := fun _ => fun
  | [d] => { results := [.lit (.bool false)], args := [d] }
  | _ => none }
def FnStrengthsWrongFalsely : Prop := fnStrengthsRow.holds Try.pinned (OpenSpec.ofChange fnStrengthsWrong)

/-- 'laws.FnExactGustOf': WHATEVER THE INPUT: true; the input reads as it did. -/
def fnExactGustOfSpec : ChangeSpec := { name := "fnExactGustOf", fn := fun _ => fun
  | [d1, d2, d3] => { results := [.lit (.bool true)], args := [d1, d2, d3] }
  | _ => none }
def fnExactGustOfRow : OpenClaim := { program := "ytlinjlpcofhdhaa", sum := "8ba838fa0ae356530f13ef918c6a39bbb6abc2bac3eaf41c49a607fbe0127e00", func := "loop.example/g00932/laws.FnExactGustOf", spec := "fnExactGustOf", apart := false }
def FnExactGustOfSaid : Prop := fnExactGustOfRow.holds Try.pinned (OpenSpec.ofChange fnExactGustOfSpec)

/-- ITS FALSE NEIGHBOUR: 'it returns false'. Refute it at one input. -/
def fnExactGustOfWrong : ChangeSpec := { name := "fnExactGustOf", fn := fun _ => fun
  | [d1, d2, d3] => { results := [.lit (.bool false)], args := [d1, d2, d3] }
  | _ => none }
def FnExactGustOfWrongFalsely : Prop := fnExactGustOfRow.holds Try.pinned (OpenSpec.ofChange fnExactGustOfWrong)

/-- 'laws.FnExactWorkAllowed': WHATEVER THE INPUT: true; the input reads as it did. -/
def fnExactWorkAllowedSpec : ChangeSpec := { name := "fnExactWorkAllowed", fn := fun _ => fun
  | [d1, d2, d3, d4] => { results := [.lit (.bool true)], args := [d1, d2, d3, d4] }
  | _ => none }
def fnExactWorkAllowedRow : OpenClaim := { program := "ytlinjlpcofhdhaa", sum := "8ba838fa0ae356530f13ef918c6a39bbb6abc2bac3eaf41c49a607fbe0127e00", func := "loop.example/g00932/laws.FnExactWorkAllowed", spec := "fnExactWorkAllowed", unfollowed := true, recurses := true, apart := false }
def FnExactWorkAllowedSaid : Prop := fnExactWorkAllowedRow.holds Try.pinned (OpenSpec.ofChange fnExactWorkAllowedSpec)

/-- ITS FALSE NEIGHBOUR: 'it returns false'. Refute it at one input. -/
def fnExactWorkAllowedWrong : ChangeSpec := { name := "fnExactWorkAllowed", fn := fun _ => fun
  | [d1, d2, d3, d4] => { results := [.lit (.bool false)], args := [d1, d2, d3, d4] }
  | _ => none }
def FnExactWorkAllowedWrongFalsely : Prop := fnExactWorkAllowedRow.holds Try.pinned (OpenSpec.ofChange fnExactWorkAllowedWrong)

/-- 'laws.FnExactAlarmTimes': WHATEVER THE INPUT: true; the input reads as it did. -/
def fnExactAlarmTimesSpec : ChangeSpec := { name := "fnExactAlarmTimes", fn := fun _ => fun
  | [d1, d2, d3] => { results := [.lit (.bool true)], args := [d1, d2, d3] }
  | _ => none }
def fnExactAlarmTimesRow : OpenClaim := { program := "ytlinjlpcofhdhaa", sum := "8ba838fa0ae356530f13ef918c6a39bbb6abc2bac3eaf41c49a607fbe0127e00", func := "loop.example/g00932/laws.FnExactAlarmTimes", spec := "fnExactAlarmTimes", apart := false }
def FnExactAlarmTimesSaid : Prop := fnExactAlarmTimesRow.holds Try.pinned (OpenSpec.ofChange fnExactAlarmTimesSpec)

/-- ITS FALSE NEIGHBOUR: 'it returns false'. Refute it at one input. -/
def fnExactAlarmTimesWrong : ChangeSpec := { name := "fnExactAlarmTimes", fn := fun _ => fun
  | [d1, d2, d3] => { results := [.lit (.bool false)], args := [d1, d2, d3] }
  | _ => none }
def FnExactAlarmTimesWrongFalsely : Prop := fnExactAlarmTimesRow.holds Try.pinned (OpenSpec.ofChange fnExactAlarmTimesWrong)

/- THE SECOND FORM. 'bulk': how many values and letters a reading holds, each counted each time it is reached (what is shared counts as often as it is met; a slice's spare places count too). A statement '..UptoSaid' is the law's where the arguments, and the package variables that the reading takes, are together of bulk at most 1048576: NARROWER than '..Said'. Prove '..Said' where nothing that the law and all that it calls make is longer than what came in: it says more and counts as full. Else prove '..UptoSaid'. A law counts once. -/
mutual
def uptoBulk {H : Type} : DataW H → Nat
  | .lit (.string bytes) => bytes.length + 1
  | .lit _ => 1
  | .nil => 1
  | .ptr d => uptoBulk d + 1
  | .slice elems spare => uptoBulkAll elems + uptoBulkAll spare + 1
  | .agg parts => uptoBulkAll parts + 1
  | .iface _ d => uptoBulk d + 1
  | .map entries => uptoBulkEntries entries + 1
  | .held _ => 1
def uptoBulkAll {H : Type} : List (DataW H) → Nat
  | [] => 0
  | d :: r => uptoBulk d + uptoBulkAll r
def uptoBulkEntries {H : Type} : List (Lit × DataW H) → Nat
  | [] => 0
  | x :: r => uptoBulkEntry x + uptoBulkEntries r
def uptoBulkEntry {H : Type} : Lit × DataW H → Nat
  | (.string bytes, d) => bytes.length + uptoBulk d + 1
  | (_, d) => uptoBulk d + 1
 end
def uptoSmall : (H : Type) → List (DataW H) → Bool := fun _ ds => decide (uptoBulkAll ds ≤ 1048576)
def OpenSpec.upto (s : _root_.Go.ChangeSpec) : _root_.Go.OpenSpec := { _root_.Go.OpenSpec.ofChange s with cond := some uptoSmall }

/-- 'laws.FnExactPressureAt', WHERE WHAT IT READS IS OF BULK AT MOST 1048576: true; the input reads as it did. -/
def fnExactPressureAtUptoRow : OpenClaim := { program := "ytlinjlpcofhdhaa", sum := "8ba838fa0ae356530f13ef918c6a39bbb6abc2bac3eaf41c49a607fbe0127e00", func := "loop.example/g00932/laws.FnExactPressureAt", spec := "fnExactPressureAt", apart := false, narrowed := true }
def FnExactPressureAtUptoSaid : Prop := fnExactPressureAtUptoRow.holds Try.pinned (OpenSpec.upto fnExactPressureAtSpec)

/-- 'laws.FnExactValidReadings', WHERE WHAT IT READS IS OF BULK AT MOST 1048576: true; the input reads as it did. -/
def fnExactValidReadingsUptoRow : OpenClaim := { program := "ytlinjlpcofhdhaa", sum := "8ba838fa0ae356530f13ef918c6a39bbb6abc2bac3eaf41c49a607fbe0127e00", func := "loop.example/g00932/laws.FnExactValidReadings", spec := "fnExactValidReadings", apart := false, narrowed := true }
def FnExactValidReadingsUptoSaid : Prop := fnExactValidReadingsUptoRow.holds Try.pinned (OpenSpec.upto fnExactValidReadingsSpec)

/-- 'laws.FnExactSameReadings', WHERE WHAT IT READS IS OF BULK AT MOST 1048576: true; the input reads as it did. -/
def fnExactSameReadingsUptoRow : OpenClaim := { program := "ytlinjlpcofhdhaa", sum := "8ba838fa0ae356530f13ef918c6a39bbb6abc2bac3eaf41c49a607fbe0127e00", func := "loop.example/g00932/laws.FnExactSameReadings", spec := "fnExactSameReadings", apart := false, narrowed := true }
def FnExactSameReadingsUptoSaid : Prop := fnExactSameReadingsUptoRow.holds Try.pinned (OpenSpec.upto fnExactSameReadingsSpec)

/-- 'laws.FnExactSwingDirections', WHERE WHAT IT READS IS OF BULK AT MOST 1048576: true; the input reads as it did. -/
def fnExactSwingDirectionsUptoRow : OpenClaim := { program := "ytlinjlpcofhdhaa", sum := "8ba838fa0ae356530f13ef918c6a39bbb6abc2bac3eaf41c49a607fbe0127e00", func := "loop.example/g00932/laws.FnExactSwingDirections", spec := "fnExactSwingDirections", apart := false, narrowed := true }
def FnExactSwingDirectionsUptoSaid : Prop := fnExactSwingDirectionsUptoRow.holds Try.pinned (OpenSpec.upto fnExactSwingDirectionsSpec)

/-- 'laws.FnExactSmoothReadings', WHERE WHAT IT READS IS OF BULK AT MOST 1048576: true; the input reads as it did. -/
def fnExactSmoothReadingsUptoRow : OpenClaim := { program := "ytlinjlpcofhdhaa", sum := "8ba838fa0ae356530f13ef918c6a39bbb6abc2bac3eaf41c49a607fbe0127e00", func := "loop.example/g00932/laws.FnExactSmoothReadings", spec := "fnExactSmoothReadings", apart := false, narrowed := true }
def FnExactSmoothReadingsUptoSaid : Prop := fnExactSmoothReadingsUptoRow.holds Try.pinned (OpenSpec.upto fnExactSmoothReadingsSpec)

/-- 'laws.FnExactMeanWind', WHERE WHAT IT READS IS OF BULK AT MOST 1048576: true; the input reads as it did. -/
def fnExactMeanWindUptoRow : OpenClaim := { program := "ytlinjlpcofhdhaa", sum := "8ba838fa0ae356530f13ef918c6a39bbb6abc2bac3eaf41c49a607fbe0127e00", func := "loop.example/g00932/laws.FnExactMeanWind", spec := "fnExactMeanWind", apart := false, narrowed := true }
def FnExactMeanWindUptoSaid : Prop := fnExactMeanWindUptoRow.holds Try.pinned (OpenSpec.upto fnExactMeanWindSpec)

/-- 'laws.FnStrengths', WHERE WHAT IT READS IS OF BULK AT MOST 1048576: true; the input reads as it did. -/
def fnStrengthsUptoRow : OpenClaim := { program := "ytlinjlpcofhdhaa", sum := "8ba838fa0ae356530f13ef918c6a39bbb6abc2bac3eaf41c49a607fbe0127e00", func := "loop.example/g00932/laws.FnStrengths", spec := "fnStrengths", apart := false, narrowed := true }
def FnStrengthsUptoSaid : Prop := fnStrengthsUptoRow.holds Try.pinned (OpenSpec.upto fnStrengthsSpec)

/-- 'laws.FnExactGustOf', WHERE WHAT IT READS IS OF BULK AT MOST 1048576: true; the input reads as it did. -/
def fnExactGustOfUptoRow : OpenClaim := { program := "ytlinjlpcofhdhaa", sum := "8ba838fa0ae356530f13ef918c6a39bbb6abc2bac3eaf41c49a607fbe0127e00", func := "loop.example/g00932/laws.FnExactGustOf", spec := "fnExactGustOf", apart := false, narrowed := true }
def FnExactGustOfUptoSaid : Prop := fnExactGustOfUptoRow.holds Try.pinned (OpenSpec.upto fnExactGustOfSpec)

/-- 'laws.FnExactWorkAllowed', WHERE WHAT IT READS IS OF BULK AT MOST 1048576: true; the input reads as it did. -/
def fnExactWorkAllowedUptoRow : OpenClaim := { program := "ytlinjlpcofhdhaa", sum := "8ba838fa0ae356530f13ef918c6a39bbb6abc2bac3eaf41c49a607fbe0127e00", func := "loop.example/g00932/laws.FnExactWorkAllowed", spec := "fnExactWorkAllowed", unfollowed := true, recurses := true, apart := false, narrowed := true }
def FnExactWorkAllowedUptoSaid : Prop := fnExactWorkAllowedUptoRow.holds Try.pinned (OpenSpec.upto fnExactWorkAllowedSpec)

/-- 'laws.FnExactAlarmTimes', WHERE WHAT IT READS IS OF BULK AT MOST 1048576: true; the input reads as it did. -/
def fnExactAlarmTimesUptoRow : OpenClaim := { program := "ytlinjlpcofhdhaa", sum := "8ba838fa0ae356530f13ef918c6a39bbb6abc2bac3eaf41c49a607fbe0127e00", func := "loop.example/g00932/laws.FnExactAlarmTimes", spec := "fnExactAlarmTimes", apart := false, narrowed := true }
def FnExactAlarmTimesUptoSaid : Prop := fnExactAlarmTimesUptoRow.holds Try.pinned (OpenSpec.upto fnExactAlarmTimesSpec)

end Rows
end Go.Proofs.Ytlinjlpcofhdhaa
