/-
  DERIVED. GIVEN WITH THE SEED: THE CARDS: each row of YtefojkdckfidcaaDoorRows.lean that lists a variable, with what it lists TIED to the program's text (the seventh form; the later family's looks); each row that meets fmt, with fmt's text TOLD by the authors' own Lean function (tested against real Go, not proved from fmt's source: count such statements apart). THE CARD IS WHAT COUNTS. Prove the row's statement (the work); the ties are given (YtefojkdckfidcaaDoorTie.lean); close each card by the builder's one call (the guide's Derived/Test/ToyasCard.lean, 'card_holds'). Laid BY PROGRAM, IN A SANDBOX (cutbox-door.mjs). By AI agents, Wed Nov 11 2026. No macro, syntax, notation, axiom, sorry.
-/
import Derived.Test.YtefojkdckfidcaaDoorRows
import GoSem.ClaimSeven
namespace Go.Proofs.YtefojkdckfidcaaDoor
namespace Rows

/-- THE TIED CARD OF 'longshorelaw10.BlockSpread'. -/
def blockSpreadCard : Claim7 := { stood := { row := blockSpreadRow, standIns := [], harness := (true, "00f71baec65066705d2e6e6eb65c095be945236cf53fa3d055ebb1996ce9bad3"), looks := false }, kinds := [], alts := [], laidByText := true, laidKinds := [.data, .pinned], laidTests := true, laidLooks := .later }
def BlockSpreadCardSaid : Prop := Claim7.holds Tryd.pinned (.plain (OpenSpec.ofChange blockSpreadSpec)) blockSpreadCard

/-- THE SECOND FORM's CARD OF 'longshorelaw10.BlockSpread'. -/
def blockSpreadUptoCard : Claim7 := { stood := { row := blockSpreadUptoRow, standIns := [], harness := (true, "00f71baec65066705d2e6e6eb65c095be945236cf53fa3d055ebb1996ce9bad3"), looks := false }, kinds := [], alts := [], laidByText := true, laidKinds := [.data, .pinned], laidTests := true, laidLooks := .later }
def BlockSpreadUptoCardSaid : Prop := Claim7.holds Tryd.pinned (.plain (OpenSpec.upto blockSpreadSpec)) blockSpreadUptoCard
end Rows
end Go.Proofs.YtefojkdckfidcaaDoor
