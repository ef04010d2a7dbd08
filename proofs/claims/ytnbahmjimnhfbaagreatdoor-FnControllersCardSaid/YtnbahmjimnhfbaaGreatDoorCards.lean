/-
  DERIVED. GIVEN WITH THE SEED: THE CARDS: each row of YtnbahmjimnhfbaaGreatDoorRows.lean that lists a variable, with what it lists TIED to the program's text (the seventh form; the later family's looks); each row that meets fmt, with fmt's text TOLD by the authors' own Lean function (tested against real Go, not proved from fmt's source: count such statements apart). THE CARD IS WHAT COUNTS. Prove the row's statement (the work); the ties are given (YtnbahmjimnhfbaaGreatDoorTie.lean); close each card by the builder's one call (the guide's Derived/Test/ToyasCard.lean, 'card_holds'). Laid BY PROGRAM, IN A SANDBOX (cutbox-door.mjs). By AI agents, Wed Nov 11 2026. No macro, syntax, notation, axiom, sorry.
-/
import Derived.Test.YtnbahmjimnhfbaaGreatDoorRows
import GoSem.ClaimSeven
namespace Go.Proofs.YtnbahmjimnhfbaaGreatDoor
namespace Rows

/-- THE TIED CARD OF 'laws.FnControllers'. -/
def fnControllersCard : Claim7 := { stood := { row := fnControllersRow, standIns := [], harness := (true, "f1b8e2b303d7aab7d8367219e36eb64241d6533e4bfd04a4c0dbb443206be720"), looks := false }, kinds := [], alts := [], laidByText := true, laidKinds := [.data, .data, .data], laidTests := true, laidLooks := .later }
def FnControllersCardSaid : Prop := Claim7.holds Tryz.pinned (.plain (OpenSpec.ofChange fnControllersSpec)) fnControllersCard

/-- THE SECOND FORM's CARD OF 'laws.FnControllers'. -/
def fnControllersUptoCard : Claim7 := { stood := { row := fnControllersUptoRow, standIns := [], harness := (true, "f1b8e2b303d7aab7d8367219e36eb64241d6533e4bfd04a4c0dbb443206be720"), looks := false }, kinds := [], alts := [], laidByText := true, laidKinds := [.data, .data, .data], laidTests := true, laidLooks := .later }
def FnControllersUptoCardSaid : Prop := Claim7.holds Tryz.pinned (.plain (OpenSpec.upto fnControllersSpec)) fnControllersUptoCard
end Rows
end Go.Proofs.YtnbahmjimnhfbaaGreatDoor
