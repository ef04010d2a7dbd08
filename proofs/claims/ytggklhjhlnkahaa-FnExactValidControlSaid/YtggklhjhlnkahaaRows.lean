/-
  No cell of these rows narrows 'for every input' (looked for: loops, veiled, ifaces, maps, wideKeys, modest, calm, conditions, laid).
  DERIVED. THE GIVEN ROWS OF THIS SEAT. 12 by the template 'for every input the law returns true; each argument reads behind the call as it read before'; 0 by the template 'total and deterministic' (their statements: YtggklhjhlnkahaaTotals.lean).
  GIVEN WITH THE SEED: the statements are not yours to turn. If you find one false, say at which input.
  Laid BY PROGRAM, IN A SANDBOX (cutbox-rows.mjs): the forced cells as the released guide's own fill.sh prints them over the translation baa51f8a9e276c7a… (all of the seat's roots in one cut). By AI agents, Wed Nov 11 2026. No macro, syntax, notation, axiom, sorry.
-/
import Derived.Test.YtggklhjhlnkahaaChecked
import GoSem.Claim
import GoSem.ClaimJoined
import GoSem.ClaimMapViews
import Derived.JoinedTies
import Derived.KernelRfl
namespace Go.Proofs.Ytggklhjhlnkahaa
/- THE CELL 'sum', in the pinned program and in every row, IS THE sha256 OF THE DUMP (.gsa) THAT YtggklhjhlnkahaaProg.lean LOADS. Nothing in Lean hashes anything: it is a label: what it is worth is what the hold of that sum in a sandbox is worth. -/
noncomputable def Try.pinned : Pinned := { name := "ytggklhjhlnkahaa", sum := "baa51f8a9e276c7a4a724e246ae3a011fa106fb0cc7d64959e63844604c254e9", checked := Try.checked }
namespace Rows
def none {H : Type} : Left H := { results := [], args := [] }

/-- 'laws.FnExactEnoughMargin': WHATEVER THE INPUT: true; the input reads as it did. -/
def fnExactEnoughMarginSpec : ChangeSpec := { name := "fnExactEnoughMargin", fn := fun _ => fun
  | [d] => { results := [.lit (.bool true)], args := [d] }
  | _ => none }
def fnExactEnoughMarginRow : OpenClaim := { program := "ytggklhjhlnkahaa", sum := "baa51f8a9e276c7a4a724e246ae3a011fa106fb0cc7d64959e63844604c254e9", func := "loop.example/g00932/laws.FnExactEnoughMargin", spec := "fnExactEnoughMargin", apart := false }
def FnExactEnoughMarginSaid : Prop := fnExactEnoughMarginRow.holds Try.pinned (OpenSpec.ofChange fnExactEnoughMarginSpec)

/-- ITS FALSE NEIGHBOUR: 'it returns false'. Refute it at one input. -/
def fnExactEnoughMarginWrong : ChangeSpec := { name := "fnExactEnoughMargin", fn := fun _ => fun
  | [d] => { results := [.lit (.bool false)], args := [d] }
  | _ => none }
def FnExactEnoughMarginWrongFalsely : Prop := fnExactEnoughMarginRow.holds Try.pinned (OpenSpec.ofChange fnExactEnoughMarginWrong)

/-- 'laws.FnExactValidRules': WHATEVER THE INPUT: true; the input reads as it did. -/
def fnExactValidRulesSpec : ChangeSpec := { name := "fnExactValidRules", fn := fun _ => fun
  | [d] => { results := [.lit (.bool true)], args := [d] }
  | _ => none }
def fnExactValidRulesRow : OpenClaim := { program := "ytggklhjhlnkahaa", sum := "baa51f8a9e276c7a4a724e246ae3a011fa106fb0cc7d64959e63844604c254e9", func := "loop.example/g00932/laws.FnExactValidRules", spec := "fnExactValidRules", apart := false }
def FnExactValidRulesSaid : Prop := fnExactValidRulesRow.holds Try.pinned (OpenSpec.ofChange fnExactValidRulesSpec)

/-- ITS FALSE NEIGHBOUR: 'it returns false'. Refute it at one input. -/
def fnExactValidRulesWrong : ChangeSpec := { name := "fnExactValidRules", fn := fun _ => fun
  | [d] => { results := [.lit (.bool false)], args := [d] }
  | _ => none }
def FnExactValidRulesWrongFalsely : Prop := fnExactValidRulesRow.holds Try.pinned (OpenSpec.ofChange fnExactValidRulesWrong)

/-- 'laws.FnExactRecordFaultName': WHATEVER THE INPUT: true; the input reads as it did. -/
def fnExactRecordFaultNameSpec : ChangeSpec := { name := "fnExactRecordFaultName", fn := fun _ => fun
  | [d] => { results := [.lit (.bool true)], args := [d] }
  | _ => none }
def fnExactRecordFaultNameRow : OpenClaim := { program := "ytggklhjhlnkahaa", sum := "baa51f8a9e276c7a4a724e246ae3a011fa106fb0cc7d64959e63844604c254e9", func := "loop.example/g00932/laws.FnExactRecordFaultName", spec := "fnExactRecordFaultName", apart := false }
def FnExactRecordFaultNameSaid : Prop := fnExactRecordFaultNameRow.holds Try.pinned (OpenSpec.ofChange fnExactRecordFaultNameSpec)

/-- ITS FALSE NEIGHBOUR: 'it returns false'. Refute it at one input. -/
def fnExactRecordFaultNameWrong : ChangeSpec := { name := "fnExactRecordFaultName", fn := fun _ => fun
  | [d] => { results := [.lit (.bool false)], args := [d] }
  | _ => none }
def FnExactRecordFaultNameWrongFalsely : Prop := fnExactRecordFaultNameRow.holds Try.pinned (OpenSpec.ofChange fnExactRecordFaultNameWrong)

/-- 'laws.FnExactModeName': WHATEVER THE INPUT: true; the input reads as it did. -/
def fnExactModeNameSpec : ChangeSpec := { name := "fnExactModeName", fn := fun _ => fun
  | [d] => { results := [.lit (.bool true)], args := [d] }
  | _ => none }
def fnExactModeNameRow : OpenClaim := { program := "ytggklhjhlnkahaa", sum := "baa51f8a9e276c7a4a724e246ae3a011fa106fb0cc7d64959e63844604c254e9", func := "loop.example/g00932/laws.FnExactModeName", spec := "fnExactModeName", apart := false }
def FnExactModeNameSaid : Prop := fnExactModeNameRow.holds Try.pinned (OpenSpec.ofChange fnExactModeNameSpec)

/-- ITS FALSE NEIGHBOUR: 'it returns false'. Refute it at one input. -/
def fnExactModeNameWrong : ChangeSpec := { name := "fnExactModeName", fn := fun _ => fun
  | [d] => { results := [.lit (.bool false)], args := [d] }
  | _ => none }
def FnExactModeNameWrongFalsely : Prop := fnExactModeNameRow.holds Try.pinned (OpenSpec.ofChange fnExactModeNameWrong)

/-- 'laws.FnExactForceOn': WHATEVER THE INPUT: true; the input reads as it did. -/
def fnExactForceOnSpec : ChangeSpec := { name := "fnExactForceOn", fn := fun _ => fun
  | [d1, d2] => { results := [.lit (.bool true)], args := [d1, d2] }
  | _ => none }
def fnExactForceOnRow : OpenClaim := { program := "ytggklhjhlnkahaa", sum := "baa51f8a9e276c7a4a724e246ae3a011fa106fb0cc7d64959e63844604c254e9", func := "loop.example/g00932/laws.FnExactForceOn", spec := "fnExactForceOn", apart := false }
def FnExactForceOnSaid : Prop := fnExactForceOnRow.holds Try.pinned (OpenSpec.ofChange fnExactForceOnSpec)

/-- ITS FALSE NEIGHBOUR: 'it returns false'. Refute it at one input. -/
def fnExactForceOnWrong : ChangeSpec := { name := "fnExactForceOn", fn := fun _ => fun
  | [d1, d2] => { results := [.lit (.bool false)], args := [d1, d2] }
  | _ => none }
def FnExactForceOnWrongFalsely : Prop := fnExactForceOnRow.holds Try.pinned (OpenSpec.ofChange fnExactForceOnWrong)

/-- 'laws.FnExactSectionsTo': WHATEVER THE INPUT: true; the input reads as it did. -/
def fnExactSectionsToSpec : ChangeSpec := { name := "fnExactSectionsTo", fn := fun _ => fun
  | [d1, d2, d3] => { results := [.lit (.bool true)], args := [d1, d2, d3] }
  | _ => none }
def fnExactSectionsToRow : OpenClaim := { program := "ytggklhjhlnkahaa", sum := "baa51f8a9e276c7a4a724e246ae3a011fa106fb0cc7d64959e63844604c254e9", func := "loop.example/g00932/laws.FnExactSectionsTo", spec := "fnExactSectionsTo", apart := false }
def FnExactSectionsToSaid : Prop := fnExactSectionsToRow.holds Try.pinned (OpenSpec.ofChange fnExactSectionsToSpec)

/-- ITS FALSE NEIGHBOUR: 'it returns false'. Refute it at one input. -/
def fnExactSectionsToWrong : ChangeSpec := { name := "fnExactSectionsTo", fn := fun _ => fun
  | [d1, d2, d3] => { results := [.lit (.bool false)], args := [d1, d2, d3] }
  | _ => none }
def FnExactSectionsToWrongFalsely : Prop := fnExactSectionsToRow.holds Try.pinned (OpenSpec.ofChange fnExactSectionsToWrong)

/-- 'laws.FnExactSwingFor': WHATEVER THE INPUT: true; the input reads as it did. -/
def fnExactSwingForSpec : ChangeSpec := { name := "fnExactSwingFor", fn := fun _ => fun
  | [d] => { results := [.lit (.bool true)], args := [d] }
  | _ => none }
def fnExactSwingForRow : OpenClaim := { program := "ytggklhjhlnkahaa", sum := "baa51f8a9e276c7a4a724e246ae3a011fa106fb0cc7d64959e63844604c254e9", func := "loop.example/g00932/laws.FnExactSwingFor", spec := "fnExactSwingFor", apart := false }
def FnExactSwingForSaid : Prop := fnExactSwingForRow.holds Try.pinned (OpenSpec.ofChange fnExactSwingForSpec)

/-- ITS FALSE NEIGHBOUR: 'it returns false'. Refute it at one input. -/
def fnExactSwingForWrong : ChangeSpec := { name := "fnExactSwingFor", fn := fun _ => fun
  | [d] => { results := [.lit (.bool false)], args := [d] }
  | _ => none }
def FnExactSwingForWrongFalsely : Prop := fnExactSwingForRow.holds Try.pinned (OpenSpec.ofChange fnExactSwingForWrong)

/-- 'laws.FnExactValidControl': WHATEVER THE INPUT: true; the input reads as it did. -/
def fnExactValidControlSpec : ChangeSpec := { name := "fnExactValidControl", fn := fun _ => fun
  | [d] => { results := [.lit (.bool true)], args := [d] }
  | _ => none }
def fnExactValidControlRow : OpenClaim := { program := "ytggklhjhlnkahaa", sum := "baa51f8a9e276c7a4a724e246ae3a011fa106fb0cc7d64959e63844604c254e9", func := "loop.example/g00932/laws.FnExactValidControl", spec := "fnExactValidControl", apart := false }
def FnExactValidControlSaid : Prop := fnExactValidControlRow.holds Try.pinned (OpenSpec.ofChange fnExactValidControlSpec)

/-- ITS FALSE NEIGHBOUR: 'it returns false'. Refute it at one input. -/
def fnExactValidControlWrong : ChangeSpec := { name := "fnExactValidControl", fn := fun _ => fun
  | [d] => { results := [.lit (.bool false)], args := [d] }
  | _ => none }
def FnExactValidControlWrongFalsely : Prop := fnExactValidControlRow.holds Try.pinned (OpenSpec.ofChange fnExactValidControlWrong)

/-- 'laws.FnExactVaneDirection': WHATEVER THE INPUT: true; the input reads as it did. -/
def fnExactVaneDirectionSpec : ChangeSpec := { name := "fnExactVaneDirection", fn := fun _ => fun
  | [d] => { results := [.lit (.bool true)], args := [d] }
  | _ => none }
def fnExactVaneDirectionRow : OpenClaim := { program := "ytggklhjhlnkahaa", sum := "baa51f8a9e276c7a4a724e246ae3a011fa106fb0cc7d64959e63844604c254e9", func := "loop.example/g00932/laws.FnExactVaneDirection", spec := "fnExactVaneDirection", apart := false }
def FnExactVaneDirectionSaid : Prop := fnExactVaneDirectionRow.holds Try.pinned (OpenSpec.ofChange fnExactVaneDirectionSpec)

/-- ITS FALSE NEIGHBOUR: 'it returns false'. Refute it at one input. -/
def fnExactVaneDirectionWrong : ChangeSpec := { name := "fnExactVaneDirection", fn := fun _ => fun
  | [d] => { results := [.lit (.bool false)], args := [d] }
  | _ => none }
def FnExactVaneDirectionWrongFalsely : Prop := fnExactVaneDirectionRow.holds Try.pinned (OpenSpec.ofChange fnExactVaneDirectionWrong)

/-- 'laws.FnExactBeaufortOf': WHATEVER THE INPUT: true; the input reads as it did. -/
def fnExactBeaufortOfSpec : ChangeSpec := { name := "fnExactBeaufortOf", fn := fun _ => fun
  | [d] => { results := [.lit (.bool true)], args := [d] }
  | _ => none }
def fnExactBeaufortOfRow : OpenClaim := { program := "ytggklhjhlnkahaa", sum := "baa51f8a9e276c7a4a724e246ae3a011fa106fb0cc7d64959e63844604c254e9", func := "loop.example/g00932/laws.FnExactBeaufortOf", spec := "fnExactBeaufortOf", apart := false }
def FnExactBeaufortOfSaid : Prop := fnExactBeaufortOfRow.holds Try.pinned (OpenSpec.ofChange fnExactBeaufortOfSpec)

/-- ITS FALSE NEIGHBOUR: 'it returns false'. Refute it at one input. -/
def fnExactBeaufortOfWrong : ChangeSpec := { name := "fnExactBeaufortOf", fn := fun _ => fun
  | [d] => { results := [.lit (.bool false)], args := [d] }
  | _ => none }
def FnExactBeaufortOfWrongFalsely : Prop := fnExactBeaufortOfRow.holds Try.pinned (OpenSpec.ofChange fnExactBeaufortOfWrong)

/-- 'laws.FnExactFreshWorld': WHATEVER THE INPUT: true; the input reads as it did. -/
def fnExactFreshWorldSpec : ChangeSpec := { name := "fnExactFreshWorld", fn := fun _ => fun
  | [d1, d2] => { results := [.lit (.bool true)], args := [d1, d2] }
  | _ => none }
def fnExactFreshWorldRow : OpenClaim := { program := "ytggklhjhlnkahaa", sum := "baa51f8a9e276c7a4a724e246ae3a011fa106fb0cc7d64959e63844604c254e9", func := "loop.example/g00932/laws.FnExactFreshWorld", spec := "fnExactFreshWorld", apart := false }
def FnExactFreshWorldSaid : Prop := fnExactFreshWorldRow.holds Try.pinned (OpenSpec.ofChange fnExactFreshWorldSpec)

/-- ITS FALSE NEIGHBOUR: 'it returns false'. Refute it at one input. -/
def fnExactFreshWorldWrong : ChangeSpec := { name := "fnExactFreshWorld", fn := fun _ => fun
  | [d1, d2] => { results := [.lit (.bool false)], args := [d1, d2] }
  | _ => none }
def FnExactFreshWorldWrongFalsely : Prop := fnExactFreshWorldRow.holds Try.pinned (OpenSpec.ofChange fnExactFreshWorldWrong)

/-- 'laws.FnExactNewControl': WHATEVER THE INPUT: true; the input reads as it did. -/
def fnExactNewControlSpec : ChangeSpec := { name := "fnExactNewControl", fn := fun _ => fun
  | [d1, d2, d3] => { results := [.lit (.bool true)], args := [d1, d2, d3] }
  | _ => none }
def fnExactNewControlRow : OpenClaim := { program := "ytggklhjhlnkahaa", sum := "baa51f8a9e276c7a4a724e246ae3a011fa106fb0cc7d64959e63844604c254e9", func := "loop.example/g00932/laws.FnExactNewControl", spec := "fnExactNewControl", apart := false }
def FnExactNewControlSaid : Prop := fnExactNewControlRow.holds Try.pinned (OpenSpec.ofChange fnExactNewControlSpec)

/-- ITS FALSE NEIGHBOUR: 'it returns false'. Refute it at one input. -/
def fnExactNewControlWrong : ChangeSpec := { name := "fnExactNewControl", fn := fun _ => fun
  | [d1, d2, d3] => { results := [.lit (.bool false)], args := [d1, d2, d3] }
  | _ => none }
def FnExactNewControlWrongFalsely : Prop := fnExactNewControlRow.holds Try.pinned (OpenSpec.ofChange fnExactNewControlWrong)

/- THE SECOND FORM. 'bulk': how many values and letters a reading holds, each counted each time it is reached (what is shared counts as often as it is met; a slice's spare places count too). A statement '..UptoSaid' is the law's where the arguments, and the package variables that the reading takes, are together of bulk at most 1048576: NARROWER than '..Said'. Prove '..Said' where nothing that the law and all that it calls make is longer than what came in: it says more and counts as full. Else prove '..UptoSaid'. A law counts once. -/
mutual
def uptoBulk {H : Type} : DataW H → Nat
  | .lit (.string bytes) => bytes.length + 1
  | .lit _ => 1
  | .nil => 1
  | .ptr d => uptoBulk d + 1
  | .slice elems spare => uptoBulkAll elems + uptoBulkAll spare + 1
  | .agg parts => uptoBulkAll parts + 1
  | .iface _ d => uptoBulk d + 1
  | .map entries => uptoBulkEntries entries + 1
  | .held _ => 1
def uptoBulkAll {H : Type} : List (DataW H) → Nat
  | [] => 0
  | d :: r => uptoBulk d + uptoBulkAll r
def uptoBulkEntries {H : Type} : List (Lit × DataW H) → Nat
  | [] => 0
  | x :: r => uptoBulkEntry x + uptoBulkEntries r
def uptoBulkEntry {H : Type} : Lit × DataW H → Nat
  | (.string bytes, d) => bytes.length + uptoBulk d + 1
  | (_, d) => uptoBulk d + 1
 end
def uptoSmall : (H : Type) → List (DataW H) → Bool := fun _ ds => decide (uptoBulkAll ds ≤ 1048576)
def OpenSpec.upto (s : _root_.Go.ChangeSpec) : _root_.Go.OpenSpec := { _root_.Go.OpenSpec.ofChange s with cond := some uptoSmall }

/-- 'laws.FnExactEnoughMargin', WHERE WHAT IT READS IS OF BULK AT MOST 1048576: true; the input reads as it did. -/
def fnExactEnoughMarginUptoRow : OpenClaim := { program := "ytggklhjhlnkahaa", sum := "baa51f8a9e276c7a4a724e246ae3a011fa106fb0cc7d64959e63844604c254e9", func := "loop.example/g00932/laws.FnExactEnoughMargin", spec := "fnExactEnoughMargin", apart := false, narrowed := true }
def FnExactEnoughMarginUptoSaid : Prop := fnExactEnoughMarginUptoRow.holds Try.pinned (OpenSpec.upto fnExactEnoughMarginSpec)

/-- 'laws.FnExactValidRules', WHERE WHAT IT READS IS OF BULK AT MOST 1048576: true; the input reads as it did. -/
def fnExactValidRulesUptoRow : OpenClaim := { program := "ytggklhjhlnkahaa", sum := "baa51f8a9e276c7a4a724e246ae3a011fa106fb0cc7d64959e63844604c254e9", func := "loop.example/g00932/laws.FnExactValidRules", spec := "fnExactValidRules", apart := false, narrowed := true }
def FnExactValidRulesUptoSaid : Prop := fnExactValidRulesUptoRow.holds Try.pinned (OpenSpec.upto fnExactValidRulesSpec)

/-- 'laws.FnExactRecordFaultName', WHERE WHAT IT READS IS OF BULK AT MOST 1048576: true; the input reads as it did. -/
def fnExactRecordFaultNameUptoRow : OpenClaim := { program := "ytggklhjhlnkahaa", sum := "baa51f8a9e276c7a4a724e246ae3a011fa106fb0cc7d64959e63844604c254e9", func := "loop.example/g00932/laws.FnExactRecordFaultName", spec := "fnExactRecordFaultName", apart := false, narrowed := true }
def FnExactRecordFaultNameUptoSaid : Prop := fnExactRecordFaultNameUptoRow.holds Try.pinned (OpenSpec.upto fnExactRecordFaultNameSpec)

/-- 'laws.FnExactModeName', WHERE WHAT IT READS IS OF BULK AT MOST 1048576: true; the input reads as it did. -/
def fnExactModeNameUptoRow : OpenClaim := { program := "ytggklhjhlnkahaa", sum := "baa51f8a9e276c7a4a724e246ae3a011fa106fb0cc7d64959e63844604c254e9", func := "loop.example/g00932/laws.FnExactModeName", spec := "fnExactModeName", apart := false, narrowed := true }
def FnExactModeNameUptoSaid : Prop := fnExactModeNameUptoRow.holds Try.pinned (OpenSpec.upto fnExactModeNameSpec)

/-- 'laws.FnExactForceOn', WHERE WHAT IT READS IS OF BULK AT MOST 1048576: true; the input reads as it did. -/
def fnExactForceOnUptoRow : OpenClaim := { program := "ytggklhjhlnkahaa", sum := "baa51f8a9e276c7a4a724e246ae3a011fa106fb0cc7d64959e63844604c254e9", func := "loop.example/g00932/laws.FnExactForceOn", spec := "fnExactForceOn", apart := false, narrowed := true }
def FnExactForceOnUptoSaid : Prop := fnExactForceOnUptoRow.holds Try.pinned (OpenSpec.upto fnExactForceOnSpec)

/-- 'laws.FnExactSectionsTo', WHERE WHAT IT READS IS OF BULK AT MOST 1048576: true; the input reads as it did. -/
def fnExactSectionsToUptoRow : OpenClaim := { program := "ytggklhjhlnkahaa", sum := "baa51f8a9e276c7a4a724e246ae3a011fa106fb0cc7d64959e63844604c254e9", func := "loop.example/g00932/laws.FnExactSectionsTo", spec := "fnExactSectionsTo", apart := false, narrowed := true }
def FnExactSectionsToUptoSaid : Prop := fnExactSectionsToUptoRow.holds Try.pinned (OpenSpec.upto fnExactSectionsToSpec)

/-- 'laws.FnExactSwingFor', WHERE WHAT IT READS IS OF BULK AT MOST 1048576: true; the input reads as it did. -/
def fnExactSwingForUptoRow : OpenClaim := { program := "ytggklhjhlnkahaa", sum := "baa51f8a9e276c7a4a724e246ae3a011fa106fb0cc7d64959e63844604c254e9", func := "loop.example/g00932/laws.FnExactSwingFor", spec := "fnExactSwingFor", apart := false, narrowed := true }
def FnExactSwingForUptoSaid : Prop := fnExactSwingForUptoRow.holds Try.pinned (OpenSpec.upto fnExactSwingForSpec)

/-- 'laws.FnExactValidControl', WHERE WHAT IT READS IS OF BULK AT MOST 1048576: true; the input reads as it did. -/
def fnExactValidControlUptoRow : OpenClaim := { program := "ytggklhjhlnkahaa", sum := "baa51f8a9e276c7a4a724e246ae3a011fa106fb0cc7d64959e63844604c254e9", func := "loop.example/g00932/laws.FnExactValidControl", spec := "fnExactValidControl", apart := false, narrowed := true }
def FnExactValidControlUptoSaid : Prop := fnExactValidControlUptoRow.holds Try.pinned (OpenSpec.upto fnExactValidControlSpec)

/-- 'laws.FnExactVaneDirection', WHERE WHAT IT READS IS OF BULK AT MOST 1048576: true; the input reads as it did. -/
def fnExactVaneDirectionUptoRow : OpenClaim := { program := "ytggklhjhlnkahaa", sum := "baa51f8a9e276c7a4a724e246ae3a011fa106fb0cc7d64959e63844604c254e9", func := "loop.example/g00932/laws.FnExactVaneDirection", spec := "fnExactVaneDirection", apart := false, narrowed := true }
def FnExactVaneDirectionUptoSaid : Prop := fnExactVaneDirectionUptoRow.holds Try.pinned (OpenSpec.upto fnExactVaneDirectionSpec)

/-- 'laws.FnExactBeaufortOf', WHERE WHAT IT READS IS OF BULK AT MOST 1048576: true; the input reads as it did. -/
def fnExactBeaufortOfUptoRow : OpenClaim := { program := "ytggklhjhlnkahaa", sum := "baa51f8a9e276c7a4a724e246ae3a011fa106fb0cc7d64959e63844604c254e9", func := "loop.example/g00932/laws.FnExactBeaufortOf", spec := "fnExactBeaufortOf", apart := false, narrowed := true }
def FnExactBeaufortOfUptoSaid : Prop := fnExactBeaufortOfUptoRow.holds Try.pinned (OpenSpec.upto fnExactBeaufortOfSpec)

/-- 'laws.FnExactFreshWorld', WHERE WHAT IT READS IS OF BULK AT MOST 1048576: true; the input reads as it did. -/
def fnExactFreshWorldUptoRow : OpenClaim := { program := "ytggklhjhlnkahaa", sum := "baa51f8a9e276c7a4a724e246ae3a011fa106fb0cc7d64959e63844604c254e9", func := "loop.example/g00932/laws.FnExactFreshWorld", spec := "fnExactFreshWorld", apart := false, narrowed := true }
def FnExactFreshWorldUptoSaid : Prop := fnExactFreshWorldUptoRow.holds Try.pinned (OpenSpec.upto fnExactFreshWorldSpec)

/-- 'laws.FnExactNewControl', WHERE WHAT IT READS IS OF BULK AT MOST 1048576: true; the input reads as it did. -/
def fnExactNewControlUptoRow : OpenClaim := { program := "ytggklhjhlnkahaa", sum := "baa51f8a9e276c7a4a724e246ae3a011fa106fb0cc7d64959e63844604c254e9", func := "loop.example/g00932/laws.FnExactNewControl", spec := "fnExactNewControl", apart := false, narrowed := true }
def FnExactNewControlUptoSaid : Prop := fnExactNewControlUptoRow.holds Try.pinned (OpenSpec.upto fnExactNewControlSpec)

end Rows
end Go.Proofs.Ytggklhjhlnkahaa
