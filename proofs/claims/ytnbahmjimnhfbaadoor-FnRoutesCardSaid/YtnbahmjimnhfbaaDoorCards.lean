/-
  DERIVED. GIVEN WITH THE SEED: THE CARDS: each row of YtnbahmjimnhfbaaDoorRows.lean that lists a variable, with what it lists TIED to the program's text (the seventh form; the later family's looks); each row that meets fmt, with fmt's text TOLD by the authors' own Lean function (tested against real Go, not proved from fmt's source: count such statements apart). THE CARD IS WHAT COUNTS. Prove the row's statement (the work); the ties are given (YtnbahmjimnhfbaaDoorTie.lean); close each card by the builder's one call (the guide's Derived/Test/ToyasCard.lean, 'card_holds'). Laid BY PROGRAM, IN A SANDBOX (cutbox-door.mjs). By AI agents, Wed Nov 11 2026. No macro, syntax, notation, axiom, sorry.
-/
import Derived.Test.YtnbahmjimnhfbaaDoorRows
import GoSem.ClaimSeven
namespace Go.Proofs.YtnbahmjimnhfbaaDoor
namespace Rows

/-- THE TIED CARD OF 'laws.FnRoutes'. -/
def fnRoutesCard : Claim7 := { stood := { row := fnRoutesRow, standIns := [], harness := (true, "053c3b117b1a9cf48653ecfec059bae32ff958cc1c877dece31aba6ff6bd23c2"), looks := false }, kinds := [], alts := [], laidByText := true, laidKinds := [.data, .data, .data], laidTests := true, laidLooks := .later }
def FnRoutesCardSaid : Prop := Claim7.holds Tryd.pinned (.plain (OpenSpec.ofChange fnRoutesSpec)) fnRoutesCard

/-- THE SECOND FORM's CARD OF 'laws.FnRoutes'. -/
def fnRoutesUptoCard : Claim7 := { stood := { row := fnRoutesUptoRow, standIns := [], harness := (true, "053c3b117b1a9cf48653ecfec059bae32ff958cc1c877dece31aba6ff6bd23c2"), looks := false }, kinds := [], alts := [], laidByText := true, laidKinds := [.data, .data, .data], laidTests := true, laidLooks := .later }
def FnRoutesUptoCardSaid : Prop := Claim7.holds Tryd.pinned (.plain (OpenSpec.upto fnRoutesSpec)) fnRoutesUptoCard
end Rows
end Go.Proofs.YtnbahmjimnhfbaaDoor
