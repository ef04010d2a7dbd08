/-
  No cell of these rows narrows 'for every input' (looked for: loops, veiled, ifaces, maps, wideKeys, modest, calm, conditions, laid).
  DERIVED. THE GIVEN ROWS OF THIS SEAT. 4 by the template 'for every input the law returns true; each argument reads behind the call as it read before'; 0 by the template 'total and deterministic' (their statements: YtjepeibajnlgeaaTotals.lean).
  GIVEN WITH THE SEED: the statements are not yours to turn. If you find one false, say at which input.
  Laid BY PROGRAM, IN A SANDBOX (cutbox-rows.mjs): the forced cells as the released guide's own fill.sh prints them over the translation 986b02e1bd93fe2b… (all of the seat's roots in one cut). By AI agents, Wed Nov 11 2026. No macro, syntax, notation, axiom, sorry.
-/
import Derived.Test.YtjepeibajnlgeaaChecked
import GoSem.Claim
import GoSem.ClaimJoined
import GoSem.ClaimMapViews
import Derived.JoinedTies
import Derived.KernelRfl
namespace Go.Proofs.Ytjepeibajnlgeaa
/- THE CELL 'sum', in the pinned program and in every row, IS THE sha256 OF THE DUMP (.gsa) THAT YtjepeibajnlgeaaProg.lean LOADS. Nothing in Lean hashes anything: it is a label: what it is worth is what the hold of that sum in a sandbox is worth. -/
noncomputable def Try.pinned : Pinned := { name := "ytjepeibajnlgeaa", sum := "986b02e1bd93fe2bc56246351a218da99901bd7b030cc944af51a7be6675d828", checked := Try.checked }
namespace Rows
def none {H : Type} : Left H := { results := [], args := [] }

/-- 'laws.FnExactSmoothReadings': WHATEVER THE INPUT: true; the input reads as it did. -/
def fnExactSmoothReadingsSpec : ChangeSpec := { name := "fnExactSmoothReadings", fn := fun _ => fun
  | [d] => { results := [.lit (.bool true)], args := [d] }
  | _ => none }
def fnExactSmoothReadingsRow : OpenClaim := { program := "ytjepeibajnlgeaa", sum := "986b02e1bd93fe2bc56246351a218da99901bd7b030cc944af51a7be6675d828", func := "loop.example/g00932/laws.FnExactSmoothReadings", spec := "fnExactSmoothReadings", apart := false }
def FnExactSmoothReadingsSaid : Prop := fnExactSmoothReadingsRow.holds Try.pinned (OpenSpec.ofChange fnExactSmoothReadingsSpec)

/-- ITS FALSE NEIGHBOUR: 'it returns false'. Refute it at one input. -/
def fnExactSmoothReadingsWrong : ChangeSpec := { name := "fnExactSmoothReadings", fn := fun _ => fun
  | [d] => { results := [.lit (.bool false)], args := [d] }
  | _ => none }
def FnExactSmoothReadingsWrongFalsely : Prop := fnExactSmoothReadingsRow.holds Try.pinned (OpenSpec.ofChange fnExactSmoothReadingsWrong)

/-- 'laws.FnStrengths': WHATEVER THE INPUT: true; the input reads as it did. -/
def fnStrengthsSpec : ChangeSpec := { name := "fnStrengths", fn := fun _ => fun
  | [d] => { results := [.lit (.bool true)], args := [d] }
  | _ => none }
def fnStrengthsRow : OpenClaim := { program := "ytjepeibajnlgeaa", sum := "986b02e1bd93fe2bc56246351a218da99901bd7b030cc944af51a7be6675d828", func := "loop.example/g00932/laws.FnStrengths", spec := "fnStrengths", apart := false }
def FnStrengthsSaid : Prop := fnStrengthsRow.holds Try.pinned (OpenSpec.ofChange fnStrengthsSpec)

/-- ITS FALSE NEIGHBOUR: 'it returns false'. Refute it at one input. -/
def fnStrengthsWrong : ChangeSpec := { name := "fnStrengths", fn := fun _ => fun
  | [d] => { results := [.lit (.bool false)], args := [d] }
  | _ => none }
def FnStrengthsWrongFalsely : Prop := fnStrengthsRow.holds Try.pinned (OpenSpec.ofChange fnStrengthsWrong)

/-- 'laws.FnExactWorkAllowed': WHATEVER THE INPUT: true; the input reads as it did. -/
def fnExactWorkAllowedSpec : ChangeSpec := { name := "fnExactWorkAllowed", fn := fun _ => fun
  | [d1, d2, d3, d4] => { results := [.lit (.bool true)], args := [d1, d2, d3, d4] }
  | _ => none }
def fnExactWorkAllowedRow : OpenClaim := { program := "ytjepeibajnlgeaa", sum := "986b02e1bd93fe2bc56246351a218da99901bd7b030cc944af51a7be6675d828", func := "loop.example/g00932/laws.FnExactWorkAllowed", spec := "fnExactWorkAllowed", unfollowed := true, recurses := true, apart := false }
def FnExactWorkAllowedSaid : Prop := fnExactWorkAllowedRow.holds Try.pinned (OpenSpec.ofChange fnExactWorkAllowedSpec)

/-- ITS FALSE NEIGHBOUR: 'it returns false'. Refute it at one input. -/
def fnExactWorkAllowedWrong : ChangeSpec := { name := "fnExactWorkAllowed", fn := fun _ => fun
  | [d1, d2, d3, d4] => { results := [.lit (.bool false)], args := [d1, d2, d3, d4] }
  | _ => none }
def FnExactWorkAllowedWrongFalsely : Prop := fnExactWorkAllowedRow.holds Try.pinned (OpenSpec.ofChange fnExactWorkAllowedWrong)

/-- 'laws.FnExactAlarmTimes': WHATEVER THE INPUT: true; the input reads as it did. -/
def fnExactAlarmTimesSpec : ChangeSpec := { name := "fnExactAlarmTimes", fn := fun _ => fun
  | [d1, d2, d3] => { results := [.lit (.bool true)], args := [d1, d2, d3] }
  | _ => none }
def fnExactAlarmTimesRow : OpenClaim := { program := "ytjepeibajnlgeaa", sum := "986b02e1bd93fe2bc56246351a218da99901bd7b030cc944af51a7be6675d828", func := "loop.example/g00932/laws.FnExactAlarmTimes", spec := "fnExactAlarmTimes", apart := false }
def FnExactAlarmTimesSaid : Prop := fnExactAlarmTimesRow.holds Try.pinned (OpenSpec.ofChange fnExactAlarmTimesSpec)

/-- ITS FALSE NEIGHBOUR: 'it returns false'. Refute it at one input. -/
def fnExactAlarmTimesWrong : ChangeSpec := { name := "fnExactAlarmTimes", fn := fun _ => fun
  | [d1, d2, d3] => { results := [.lit (.bool false)], args := [d1, d2, d3] }
  | _ => none }
def FnExactAlarmTimesWrongFalsely : Prop := fnExactAlarmTimesRow.holds Try.pinned (OpenSpec.ofChange fnExactAlarmTimesWrong)

/- THE SECOND FORM. 'bulk': how many values and letters a reading holds, each counted each time it is reached (what is shared counts as often as it is met; a slice's spare places count too). A statement '..UptoSaid' is the law's where the arguments, and the package variables that the reading takes, are together of bulk at most 1048576: NARROWER than '..Said'. Prove '..Said' where nothing that the law and all that it calls make is longer than what came in: it says more and counts as full. Else prove '..UptoSaid'. A law counts once. -/
mutual
def uptoBulk {H : Type} : DataW H → Nat
  | .lit (.string bytes) => bytes.length + 1
  | .lit _ => 1
  | .nil => 1
  | .ptr d => uptoBulk d + 1
  | .slice elems spare => uptoBulkAll elems + uptoBulkAll spare + 1
  | .agg parts => uptoBulkAll parts + 1
  | .iface _ d => uptoBulk d + 1
  | .map entries => uptoBulkEntries entries + 1
  | .held _ => 1
def uptoBulkAll {H : Type} : List (DataW H) → Nat
  | [] => 0
  | d :: r => uptoBulk d + uptoBulkAll r
def uptoBulkEntries {H : Type} : List (Lit × DataW H) → Nat
  | [] => 0
  | x :: r => uptoBulkEntry x + uptoBulkEntries r
def uptoBulkEntry {H : Type} : Lit × DataW H → Nat
  | (.string bytes, d) => bytes.length + uptoBulk d + 1
  | (_, d) => uptoBulk d + 1
 end
def uptoSmall : (H : Type) → List (DataW H) → Bool := fun _ ds => decide (uptoBulkAll ds ≤ 1048576)
def OpenSpec.upto (s : _root_.Go.ChangeSpec) : _root_.Go.OpenSpec := { _root_.Go.OpenSpec.ofChange s with cond := some uptoSmall }

/-- 'laws.FnExactSmoothReadings', WHERE WHAT IT READS IS OF BULK AT MOST 1048576: true; the input reads as it did. -/
def fnExactSmoothReadingsUptoRow : OpenClaim := { program := "ytjepeibajnlgeaa", sum := "986b02e1bd93fe2bc56246351a218da99901bd7b030cc944af51a7be6675d828", func := "loop.example/g00932/laws.FnExactSmoothReadings", spec := "fnExactSmoothReadings", apart := false, narrowed := true }
def FnExactSmoothReadingsUptoSaid : Prop := fnExactSmoothReadingsUptoRow.holds Try.pinned (OpenSpec.upto fnExactSmoothReadingsSpec)

/-- 'laws.FnStrengths', WHERE WHAT IT READS IS OF BULK AT MOST 1048576: true; the input reads as it did. -/
def fnStrengthsUptoRow : OpenClaim := { program := "ytjepeibajnlgeaa", sum := "986b02e1bd93fe2bc56246351a218da99901bd7b030cc944af51a7be6675d828", func := "loop.example/g00932/laws.FnStrengths", spec := "fnStrengths", apart := false, narrowed := true }
def FnStrengthsUptoSaid : Prop := fnStrengthsUptoRow.holds Try.pinned (OpenSpec.upto fnStrengthsSpec)

/-- 'laws.FnExactWorkAllowed', WHERE WHAT IT READS IS OF BULK AT MOST 1048576: true; the input reads as it did. -/
def fnExactWorkAllowedUptoRow : OpenClaim := { program := "ytjepeibajnlgeaa", sum := "986b02e1bd93fe2bc56246351a218da99901bd7b030cc944af51a7be6675d828", func := "loop.example/g00932/laws.FnExactWorkAllowed", spec := "fnExactWorkAllowed", unfollowed := true, recurses := true, apart := false, narrowed := true }
def FnExactWorkAllowedUptoSaid : Prop := fnExactWorkAllowedUptoRow.holds Try.pinned (OpenSpec.upto fnExactWorkAllowedSpec)

/-- 'laws.FnExactAlarmTimes', WHERE WHAT IT READS IS OF BULK AT MOST 1048576: true; the input reads as it did. -/
def fnExactAlarmTimesUptoRow : OpenClaim := { program := "ytjepeibajnlgeaa", sum := "986b02e1bd93fe2bc56246351a218da99901bd7b030cc944af51a7be6675d828", func := "loop.example/g00932/laws.FnExactAlarmTimes", spec := "fnExactAlarmTimes", apart := false, narrowed := true }
def FnExactAlarmTimesUptoSaid : Prop := fnExactAlarmTimesUptoRow.holds Try.pinned (OpenSpec.upto fnExactAlarmTimesSpec)

end Rows
end Go.Proofs.Ytjepeibajnlgeaa
