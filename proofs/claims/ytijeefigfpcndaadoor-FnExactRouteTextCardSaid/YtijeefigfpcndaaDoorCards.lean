/-
  DERIVED. GIVEN WITH THE SEED: THE CARDS: each row of YtijeefigfpcndaaDoorRows.lean that lists a variable, with what it lists TIED to the program's text (the seventh form; the later family's looks); each row that meets fmt, with fmt's text TOLD by the authors' own Lean function (tested against real Go, not proved from fmt's source: count such statements apart). THE CARD IS WHAT COUNTS. Prove the row's statement (the work); the ties are given (YtijeefigfpcndaaDoorTie.lean); close each card by the builder's one call (the guide's Derived/Test/ToyasCard.lean, 'card_holds'). Laid BY PROGRAM, IN A SANDBOX (cutbox-door.mjs). By AI agents, Wed Nov 11 2026. No macro, syntax, notation, axiom, sorry.
-/
import Derived.Test.YtijeefigfpcndaaDoorRows
import GoSem.ClaimSeven
namespace Go.Proofs.YtijeefigfpcndaaDoor
namespace Rows

/-- THE TIED CARD OF 'laws.FnExactControlText'. -/
def fnExactControlTextCard : Claim7 := { stood := { row := fnExactControlTextRow, standIns := [], harness := (true, "46da9e778094b2d0797e3a68db34fa2b479d2ce465d97567531e9c997d275276"), looks := true }, kinds := [], alts := [], laidByText := true, laidKinds := [.data, .data, .data], laidTests := true, laidLooks := .later }
def FnExactControlTextCardSaid : Prop := Claim7.holds Tryd.pinned (.plain (OpenSpec.ofChange fnExactControlTextSpec)) fnExactControlTextCard

/-- THE TIED CARD OF 'laws.FnExactRouteText'. -/
def fnExactRouteTextCard : Claim7 := { stood := { row := fnExactRouteTextRow, standIns := [], harness := (true, "46da9e778094b2d0797e3a68db34fa2b479d2ce465d97567531e9c997d275276"), looks := true }, kinds := [], alts := [], laidByText := true, laidKinds := [.data, .data, .data], laidTests := true, laidLooks := .later }
def FnExactRouteTextCardSaid : Prop := Claim7.holds Tryd.pinned (.plain (OpenSpec.ofChange fnExactRouteTextSpec)) fnExactRouteTextCard

/-- THE TIED CARD OF 'laws.FnExactReadingsText'. -/
def fnExactReadingsTextCard : Claim7 := { stood := { row := fnExactReadingsTextRow, standIns := [], harness := (true, "46da9e778094b2d0797e3a68db34fa2b479d2ce465d97567531e9c997d275276"), looks := true }, kinds := [], alts := [], laidByText := true, laidKinds := [.data, .data, .data], laidTests := true, laidLooks := .later }
def FnExactReadingsTextCardSaid : Prop := Claim7.holds Tryd.pinned (.plain (OpenSpec.ofChange fnExactReadingsTextSpec)) fnExactReadingsTextCard

/-- THE TIED CARD OF 'laws.FnExactReadReadings'. -/
def fnExactReadReadingsCard : Claim7 := { stood := { row := fnExactReadReadingsRow, standIns := [], harness := (true, "46da9e778094b2d0797e3a68db34fa2b479d2ce465d97567531e9c997d275276"), looks := true }, kinds := [], alts := [], laidByText := true, laidKinds := [.data, .data, .data, .sentinel, .sentinel], laidTests := true, laidLooks := .later }
def FnExactReadReadingsCardSaid : Prop := Claim7.holds Tryd.pinned (.plain (OpenSpec.ofChange fnExactReadReadingsSpec)) fnExactReadReadingsCard

/-- THE SECOND FORM's CARD OF 'laws.FnExactControlText'. -/
def fnExactControlTextUptoCard : Claim7 := { stood := { row := fnExactControlTextUptoRow, standIns := [], harness := (true, "46da9e778094b2d0797e3a68db34fa2b479d2ce465d97567531e9c997d275276"), looks := true }, kinds := [], alts := [], laidByText := true, laidKinds := [.data, .data, .data], laidTests := true, laidLooks := .later }
def FnExactControlTextUptoCardSaid : Prop := Claim7.holds Tryd.pinned (.plain (OpenSpec.upto fnExactControlTextSpec)) fnExactControlTextUptoCard

/-- THE SECOND FORM's CARD OF 'laws.FnExactRouteText'. -/
def fnExactRouteTextUptoCard : Claim7 := { stood := { row := fnExactRouteTextUptoRow, standIns := [], harness := (true, "46da9e778094b2d0797e3a68db34fa2b479d2ce465d97567531e9c997d275276"), looks := true }, kinds := [], alts := [], laidByText := true, laidKinds := [.data, .data, .data], laidTests := true, laidLooks := .later }
def FnExactRouteTextUptoCardSaid : Prop := Claim7.holds Tryd.pinned (.plain (OpenSpec.upto fnExactRouteTextSpec)) fnExactRouteTextUptoCard

/-- THE SECOND FORM's CARD OF 'laws.FnExactReadingsText'. -/
def fnExactReadingsTextUptoCard : Claim7 := { stood := { row := fnExactReadingsTextUptoRow, standIns := [], harness := (true, "46da9e778094b2d0797e3a68db34fa2b479d2ce465d97567531e9c997d275276"), looks := true }, kinds := [], alts := [], laidByText := true, laidKinds := [.data, .data, .data], laidTests := true, laidLooks := .later }
def FnExactReadingsTextUptoCardSaid : Prop := Claim7.holds Tryd.pinned (.plain (OpenSpec.upto fnExactReadingsTextSpec)) fnExactReadingsTextUptoCard

/-- THE SECOND FORM's CARD OF 'laws.FnExactReadReadings'. -/
def fnExactReadReadingsUptoCard : Claim7 := { stood := { row := fnExactReadReadingsUptoRow, standIns := [], harness := (true, "46da9e778094b2d0797e3a68db34fa2b479d2ce465d97567531e9c997d275276"), looks := true }, kinds := [], alts := [], laidByText := true, laidKinds := [.data, .data, .data, .sentinel, .sentinel], laidTests := true, laidLooks := .later }
def FnExactReadReadingsUptoCardSaid : Prop := Claim7.holds Tryd.pinned (.plain (OpenSpec.upto fnExactReadReadingsSpec)) fnExactReadReadingsUptoCard
end Rows
end Go.Proofs.YtijeefigfpcndaaDoor
