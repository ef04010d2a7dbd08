/-
  DERIVED. GIVEN WITH THE SEED: THE CARDS: each row of YtclfhegjfjcjeaaDoorRows.lean that lists a variable, with what it lists TIED to the program's text (the seventh form; the later family's looks); each row that meets fmt, with fmt's text TOLD by the authors' own Lean function (tested against real Go, not proved from fmt's source: count such statements apart). THE CARD IS WHAT COUNTS. Prove the row's statement (the work); the ties are given (YtclfhegjfjcjeaaDoorTie.lean); close each card by the builder's one call (the guide's Derived/Test/ToyasCard.lean, 'card_holds'). Laid BY PROGRAM, IN A SANDBOX (cutbox-door.mjs). By AI agents, Wed Nov 11 2026. No macro, syntax, notation, axiom, sorry.
-/
import Derived.Test.YtclfhegjfjcjeaaDoorRows
import GoSem.ClaimSeven
namespace Go.Proofs.YtclfhegjfjcjeaaDoor
namespace Rows

/-- THE TIED CARD OF 'laws.FnExactReadReadings'. -/
def fnExactReadReadingsCard : Claim7 := { stood := { row := fnExactReadReadingsRow, standIns := [], harness := (true, "444002b573f0c095d740349f6fcc1978cb3553d6a1b4b31132e5541210ace153"), looks := true }, kinds := [], alts := [], laidByText := true, laidKinds := [.data, .data, .data, .sentinel, .sentinel], laidTests := true, laidLooks := .later }
def FnExactReadReadingsCardSaid : Prop := Claim7.holds Tryd.pinned (.plain (OpenSpec.ofChange fnExactReadReadingsSpec)) fnExactReadReadingsCard

/-- THE SECOND FORM's CARD OF 'laws.FnExactReadReadings'. -/
def fnExactReadReadingsUptoCard : Claim7 := { stood := { row := fnExactReadReadingsUptoRow, standIns := [], harness := (true, "444002b573f0c095d740349f6fcc1978cb3553d6a1b4b31132e5541210ace153"), looks := true }, kinds := [], alts := [], laidByText := true, laidKinds := [.data, .data, .data, .sentinel, .sentinel], laidTests := true, laidLooks := .later }
def FnExactReadReadingsUptoCardSaid : Prop := Claim7.holds Tryd.pinned (.plain (OpenSpec.upto fnExactReadReadingsSpec)) fnExactReadReadingsUptoCard
end Rows
end Go.Proofs.YtclfhegjfjcjeaaDoor
