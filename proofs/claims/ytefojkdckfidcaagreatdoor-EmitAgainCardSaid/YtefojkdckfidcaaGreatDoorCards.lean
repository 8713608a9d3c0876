/-
  DERIVED. GIVEN WITH THE SEED: THE CARDS: each row of YtefojkdckfidcaaGreatDoorRows.lean that lists a variable, with what it lists TIED to the program's text (the seventh form; the later family's looks); each row that meets fmt, with fmt's text TOLD by the authors' own Lean function (tested against real Go, not proved from fmt's source: count such statements apart). THE CARD IS WHAT COUNTS. Prove the row's statement (the work); the ties are given (YtefojkdckfidcaaGreatDoorTie.lean); close each card by the builder's one call (the guide's Derived/Test/ToyasCard.lean, 'card_holds'). Laid BY PROGRAM, IN A SANDBOX (cutbox-door.mjs). By AI agents, Wed Nov 11 2026. No macro, syntax, notation, axiom, sorry.
-/
import Derived.Test.YtefojkdckfidcaaGreatDoorRows
import GoSem.ClaimSeven
namespace Go.Proofs.YtefojkdckfidcaaGreatDoor
namespace Rows

/-- THE TIED CARD OF 'longshorelaw10.BlockParses'. -/
def blockParsesCard : Claim7 := { stood := { row := blockParsesRow, standIns := [], harness := (true, "0eab7e9a9cda182f4136751df56f3fee8661f2fbf300824f1b435920f80c3dbb"), looks := false }, kinds := [], alts := [], laidByText := true, laidKinds := [.data, .pinned], laidTests := true, laidLooks := .later }
def BlockParsesCardSaid : Prop := Claim7.holds Tryz.pinned (.plain (OpenSpec.ofChange blockParsesSpec)) blockParsesCard

/-- THE TIED CARD OF 'longshorelaw10.BlockEntries'. -/
def blockEntriesCard : Claim7 := { stood := { row := blockEntriesRow, standIns := [], harness := (true, "0eab7e9a9cda182f4136751df56f3fee8661f2fbf300824f1b435920f80c3dbb"), looks := false }, kinds := [], alts := [], laidByText := true, laidKinds := [.data, .pinned], laidTests := true, laidLooks := .later }
def BlockEntriesCardSaid : Prop := Claim7.holds Tryz.pinned (.plain (OpenSpec.ofChange blockEntriesSpec)) blockEntriesCard

/-- THE TIED CARD OF 'longshorelaw11.EmitWrites'. -/
def emitWritesCard : Claim7 := { stood := { row := emitWritesRow, standIns := [], harness := (true, "0eab7e9a9cda182f4136751df56f3fee8661f2fbf300824f1b435920f80c3dbb"), looks := false }, kinds := [], alts := [], laidByText := true, laidKinds := [.data, .pinned], laidTests := true, laidLooks := .later }
def EmitWritesCardSaid : Prop := Claim7.holds Tryz.pinned (.plain (OpenSpec.ofChange emitWritesSpec)) emitWritesCard

/-- THE TIED CARD OF 'longshorelaw11.EmitBack'. -/
def emitBackCard : Claim7 := { stood := { row := emitBackRow, standIns := [], harness := (true, "0eab7e9a9cda182f4136751df56f3fee8661f2fbf300824f1b435920f80c3dbb"), looks := false }, kinds := [], alts := [], laidByText := true, laidKinds := [.data, .pinned], laidTests := true, laidLooks := .later }
def EmitBackCardSaid : Prop := Claim7.holds Tryz.pinned (.plain (OpenSpec.ofChange emitBackSpec)) emitBackCard

/-- THE TIED CARD OF 'longshorelaw11.EmitAgain'. -/
def emitAgainCard : Claim7 := { stood := { row := emitAgainRow, standIns := [], harness := (true, "0eab7e9a9cda182f4136751df56f3fee8661f2fbf300824f1b435920f80c3dbb"), looks := false }, kinds := [], alts := [], laidByText := true, laidKinds := [.data, .pinned], laidTests := true, laidLooks := .later }
def EmitAgainCardSaid : Prop := Claim7.holds Tryz.pinned (.plain (OpenSpec.ofChange emitAgainSpec)) emitAgainCard

/-- THE SECOND FORM's CARD OF 'longshorelaw10.BlockParses'. -/
def blockParsesUptoCard : Claim7 := { stood := { row := blockParsesUptoRow, standIns := [], harness := (true, "0eab7e9a9cda182f4136751df56f3fee8661f2fbf300824f1b435920f80c3dbb"), looks := false }, kinds := [], alts := [], laidByText := true, laidKinds := [.data, .pinned], laidTests := true, laidLooks := .later }
def BlockParsesUptoCardSaid : Prop := Claim7.holds Tryz.pinned (.plain (OpenSpec.upto blockParsesSpec)) blockParsesUptoCard

/-- THE SECOND FORM's CARD OF 'longshorelaw10.BlockEntries'. -/
def blockEntriesUptoCard : Claim7 := { stood := { row := blockEntriesUptoRow, standIns := [], harness := (true, "0eab7e9a9cda182f4136751df56f3fee8661f2fbf300824f1b435920f80c3dbb"), looks := false }, kinds := [], alts := [], laidByText := true, laidKinds := [.data, .pinned], laidTests := true, laidLooks := .later }
def BlockEntriesUptoCardSaid : Prop := Claim7.holds Tryz.pinned (.plain (OpenSpec.upto blockEntriesSpec)) blockEntriesUptoCard

/-- THE SECOND FORM's CARD OF 'longshorelaw11.EmitWrites'. -/
def emitWritesUptoCard : Claim7 := { stood := { row := emitWritesUptoRow, standIns := [], harness := (true, "0eab7e9a9cda182f4136751df56f3fee8661f2fbf300824f1b435920f80c3dbb"), looks := false }, kinds := [], alts := [], laidByText := true, laidKinds := [.data, .pinned], laidTests := true, laidLooks := .later }
def EmitWritesUptoCardSaid : Prop := Claim7.holds Tryz.pinned (.plain (OpenSpec.upto emitWritesSpec)) emitWritesUptoCard

/-- THE SECOND FORM's CARD OF 'longshorelaw11.EmitBack'. -/
def emitBackUptoCard : Claim7 := { stood := { row := emitBackUptoRow, standIns := [], harness := (true, "0eab7e9a9cda182f4136751df56f3fee8661f2fbf300824f1b435920f80c3dbb"), looks := false }, kinds := [], alts := [], laidByText := true, laidKinds := [.data, .pinned], laidTests := true, laidLooks := .later }
def EmitBackUptoCardSaid : Prop := Claim7.holds Tryz.pinned (.plain (OpenSpec.upto emitBackSpec)) emitBackUptoCard

/-- THE SECOND FORM's CARD OF 'longshorelaw11.EmitAgain'. -/
def emitAgainUptoCard : Claim7 := { stood := { row := emitAgainUptoRow, standIns := [], harness := (true, "0eab7e9a9cda182f4136751df56f3fee8661f2fbf300824f1b435920f80c3dbb"), looks := false }, kinds := [], alts := [], laidByText := true, laidKinds := [.data, .pinned], laidTests := true, laidLooks := .later }
def EmitAgainUptoCardSaid : Prop := Claim7.holds Tryz.pinned (.plain (OpenSpec.upto emitAgainSpec)) emitAgainUptoCard
end Rows
end Go.Proofs.YtefojkdckfidcaaGreatDoor
