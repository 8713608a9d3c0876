/-
  DERIVED. GIVEN WITH THE SEED: THE CARDS: each row of YtibgdilkodjojaaGreatDoorRows.lean that lists a variable, with what it lists TIED to the program's text (the seventh form; the later family's looks); each row that meets fmt, with fmt's text TOLD by the authors' own Lean function (tested against real Go, not proved from fmt's source: count such statements apart). THE CARD IS WHAT COUNTS. Prove the row's statement (the work); the ties are given (YtibgdilkodjojaaGreatDoorTie.lean); close each card by the builder's one call (the guide's Derived/Test/ToyasCard.lean, 'card_holds'). Laid BY PROGRAM, IN A SANDBOX (cutbox-door.mjs). By AI agents, Wed Nov 11 2026. No macro, syntax, notation, axiom, sorry.
-/
import Derived.Test.YtibgdilkodjojaaGreatDoorRows
import GoSem.ClaimSeven
namespace Go.Proofs.YtibgdilkodjojaaGreatDoor
namespace Rows

/-- THE TIED CARD OF 'longshorelaw14.SubstNodes'. -/
def substNodesCard : Claim7 := { stood := { row := substNodesRow, standIns := [], harness := (true, "cc838ab0f54f6ec1b3621818b4f9fa06df73e14c39b5060ebb98f065ef082b40"), looks := true }, kinds := [], alts := [], laidByText := true, laidKinds := [.data, .pinned], laidTests := true, laidLooks := .later }
def SubstNodesCardSaid : Prop := Claim7.holds Tryz.pinned (.plain (OpenSpec.ofChange substNodesSpec)) substNodesCard

/-- THE TIED CARD OF 'longshorelaw12.EnvGathers'. -/
def envGathersCard : Claim7 := { stood := { row := envGathersRow, standIns := [], harness := (true, "cc838ab0f54f6ec1b3621818b4f9fa06df73e14c39b5060ebb98f065ef082b40"), looks := true }, kinds := [], alts := [], laidByText := true, laidKinds := [.data, .pinned], laidTests := true, laidLooks := .later }
def EnvGathersCardSaid : Prop := Claim7.holds Tryz.pinned (.plain (OpenSpec.ofChange envGathersSpec)) envGathersCard

/-- THE SECOND FORM's CARD OF 'longshorelaw14.SubstNodes'. -/
def substNodesUptoCard : Claim7 := { stood := { row := substNodesUptoRow, standIns := [], harness := (true, "cc838ab0f54f6ec1b3621818b4f9fa06df73e14c39b5060ebb98f065ef082b40"), looks := true }, kinds := [], alts := [], laidByText := true, laidKinds := [.data, .pinned], laidTests := true, laidLooks := .later }
def SubstNodesUptoCardSaid : Prop := Claim7.holds Tryz.pinned (.plain (OpenSpec.upto substNodesSpec)) substNodesUptoCard

/-- THE SECOND FORM's CARD OF 'longshorelaw12.EnvGathers'. -/
def envGathersUptoCard : Claim7 := { stood := { row := envGathersUptoRow, standIns := [], harness := (true, "cc838ab0f54f6ec1b3621818b4f9fa06df73e14c39b5060ebb98f065ef082b40"), looks := true }, kinds := [], alts := [], laidByText := true, laidKinds := [.data, .pinned], laidTests := true, laidLooks := .later }
def EnvGathersUptoCardSaid : Prop := Claim7.holds Tryz.pinned (.plain (OpenSpec.upto envGathersSpec)) envGathersUptoCard
end Rows
end Go.Proofs.YtibgdilkodjojaaGreatDoor
