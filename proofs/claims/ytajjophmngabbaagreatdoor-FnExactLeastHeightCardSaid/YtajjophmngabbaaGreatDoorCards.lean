/-
  DERIVED. GIVEN WITH THE SEED: THE CARDS: each row of YtajjophmngabbaaGreatDoorRows.lean that lists a variable, with what it lists TIED to the program's text (the seventh form; the later family's looks); each row that meets fmt, with fmt's text TOLD by the authors' own Lean function (tested against real Go, not proved from fmt's source: count such statements apart). THE CARD IS WHAT COUNTS. Prove the row's statement (the work); the ties are given (YtajjophmngabbaaGreatDoorTie.lean); close each card by the builder's one call (the guide's Derived/Test/ToyasCard.lean, 'card_holds'). Laid BY PROGRAM, IN A SANDBOX (cutbox-door.mjs). By AI agents, Wed Nov 11 2026. No macro, syntax, notation, axiom, sorry.
-/
import Derived.Test.YtajjophmngabbaaGreatDoorRows
import GoSem.ClaimSeven
namespace Go.Proofs.YtajjophmngabbaaGreatDoor
namespace Rows

/-- THE TIED CARD OF 'laws.FnExactLeastHeight'. -/
def fnExactLeastHeightCard : Claim7 := { stood := { row := fnExactLeastHeightRow, standIns := [], harness := (true, "64d9ad21db1809045c17041ef5ce4f351f811d2d08cdd9211b4ad4fa04bcf3e0"), looks := false }, kinds := [], alts := [], laidByText := true, laidKinds := [.data], laidTests := true, laidLooks := .later }
def FnExactLeastHeightCardSaid : Prop := Claim7.holds Tryz.pinned (.plain (OpenSpec.ofChange fnExactLeastHeightSpec)) fnExactLeastHeightCard

/-- THE SECOND FORM's CARD OF 'laws.FnExactLeastHeight'. -/
def fnExactLeastHeightUptoCard : Claim7 := { stood := { row := fnExactLeastHeightUptoRow, standIns := [], harness := (true, "64d9ad21db1809045c17041ef5ce4f351f811d2d08cdd9211b4ad4fa04bcf3e0"), looks := false }, kinds := [], alts := [], laidByText := true, laidKinds := [.data], laidTests := true, laidLooks := .later }
def FnExactLeastHeightUptoCardSaid : Prop := Claim7.holds Tryz.pinned (.plain (OpenSpec.upto fnExactLeastHeightSpec)) fnExactLeastHeightUptoCard
end Rows
end Go.Proofs.YtajjophmngabbaaGreatDoor
