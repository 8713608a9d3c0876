/-
  DERIVED. GIVEN WITH THE SEED: THE CARDS: each row of YtibgdilkodjojaaDoorRows.lean that lists a variable, with what it lists TIED to the program's text (the seventh form; the later family's looks); each row that meets fmt, with fmt's text TOLD by the authors' own Lean function (tested against real Go, not proved from fmt's source: count such statements apart). THE CARD IS WHAT COUNTS. Prove the row's statement (the work); the ties are given (YtibgdilkodjojaaDoorTie.lean); close each card by the builder's one call (the guide's Derived/Test/ToyasCard.lean, 'card_holds'). Laid BY PROGRAM, IN A SANDBOX (cutbox-door.mjs). By AI agents, Wed Nov 11 2026. No macro, syntax, notation, axiom, sorry.
-/
import Derived.Test.YtibgdilkodjojaaDoorRows
import GoSem.ClaimSeven
namespace Go.Proofs.YtibgdilkodjojaaDoor
namespace Rows

/-- THE TIED CARD OF 'longshorelaw14.SubstSays'. -/
def substSaysCard : Claim7 := { stood := { row := substSaysRow, standIns := [], harness := (true, "727fc9405ee7298d6ec434026b0d7d865bb6a53395155cacbee6ffdaf2284367"), looks := true }, kinds := [], alts := [], laidByText := true, laidKinds := [.data, .pinned], laidTests := true, laidLooks := .later }
def SubstSaysCardSaid : Prop := Claim7.holds Tryd.pinned (.plain (OpenSpec.ofChange substSaysSpec)) substSaysCard

/-- THE TIED CARD OF 'longshorelaw14.SubstAgree'. -/
def substAgreeCard : Claim7 := { stood := { row := substAgreeRow, standIns := [], harness := (true, "727fc9405ee7298d6ec434026b0d7d865bb6a53395155cacbee6ffdaf2284367"), looks := true }, kinds := [], alts := [], laidByText := true, laidKinds := [.data, .pinned], laidTests := true, laidLooks := .later }
def SubstAgreeCardSaid : Prop := Claim7.holds Tryd.pinned (.plain (OpenSpec.ofChange substAgreeSpec)) substAgreeCard

/-- THE TIED CARD OF 'longshorelaw12.EnvParses'. -/
def envParsesCard : Claim7 := { stood := { row := envParsesRow, standIns := [], harness := (true, "727fc9405ee7298d6ec434026b0d7d865bb6a53395155cacbee6ffdaf2284367"), looks := true }, kinds := [], alts := [], laidByText := true, laidKinds := [.data, .pinned], laidTests := true, laidLooks := .later }
def EnvParsesCardSaid : Prop := Claim7.holds Tryd.pinned (.plain (OpenSpec.ofChange envParsesSpec)) envParsesCard

/-- THE TIED CARD OF 'longshorelaw12.EnvOver'. -/
def envOverCard : Claim7 := { stood := { row := envOverRow, standIns := [], harness := (true, "727fc9405ee7298d6ec434026b0d7d865bb6a53395155cacbee6ffdaf2284367"), looks := true }, kinds := [], alts := [], laidByText := true, laidKinds := [.data, .pinned], laidTests := true, laidLooks := .later }
def EnvOverCardSaid : Prop := Claim7.holds Tryd.pinned (.plain (OpenSpec.ofChange envOverSpec)) envOverCard

/-- THE SECOND FORM's CARD OF 'longshorelaw14.SubstSays'. -/
def substSaysUptoCard : Claim7 := { stood := { row := substSaysUptoRow, standIns := [], harness := (true, "727fc9405ee7298d6ec434026b0d7d865bb6a53395155cacbee6ffdaf2284367"), looks := true }, kinds := [], alts := [], laidByText := true, laidKinds := [.data, .pinned], laidTests := true, laidLooks := .later }
def SubstSaysUptoCardSaid : Prop := Claim7.holds Tryd.pinned (.plain (OpenSpec.upto substSaysSpec)) substSaysUptoCard

/-- THE SECOND FORM's CARD OF 'longshorelaw14.SubstAgree'. -/
def substAgreeUptoCard : Claim7 := { stood := { row := substAgreeUptoRow, standIns := [], harness := (true, "727fc9405ee7298d6ec434026b0d7d865bb6a53395155cacbee6ffdaf2284367"), looks := true }, kinds := [], alts := [], laidByText := true, laidKinds := [.data, .pinned], laidTests := true, laidLooks := .later }
def SubstAgreeUptoCardSaid : Prop := Claim7.holds Tryd.pinned (.plain (OpenSpec.upto substAgreeSpec)) substAgreeUptoCard

/-- THE SECOND FORM's CARD OF 'longshorelaw12.EnvParses'. -/
def envParsesUptoCard : Claim7 := { stood := { row := envParsesUptoRow, standIns := [], harness := (true, "727fc9405ee7298d6ec434026b0d7d865bb6a53395155cacbee6ffdaf2284367"), looks := true }, kinds := [], alts := [], laidByText := true, laidKinds := [.data, .pinned], laidTests := true, laidLooks := .later }
def EnvParsesUptoCardSaid : Prop := Claim7.holds Tryd.pinned (.plain (OpenSpec.upto envParsesSpec)) envParsesUptoCard

/-- THE SECOND FORM's CARD OF 'longshorelaw12.EnvOver'. -/
def envOverUptoCard : Claim7 := { stood := { row := envOverUptoRow, standIns := [], harness := (true, "727fc9405ee7298d6ec434026b0d7d865bb6a53395155cacbee6ffdaf2284367"), looks := true }, kinds := [], alts := [], laidByText := true, laidKinds := [.data, .pinned], laidTests := true, laidLooks := .later }
def EnvOverUptoCardSaid : Prop := Claim7.holds Tryd.pinned (.plain (OpenSpec.upto envOverSpec)) envOverUptoCard
end Rows
end Go.Proofs.YtibgdilkodjojaaDoor
