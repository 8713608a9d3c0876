/-
  DERIVED. GIVEN WITH THE SEED: THE CARDS: each row of YtonjhkefnijlhaaDoorRows.lean that lists a variable, with what it lists TIED to the program's text (the seventh form; the later family's looks); each row that meets fmt, with fmt's text TOLD by the authors' own Lean function (tested against real Go, not proved from fmt's source: count such statements apart). THE CARD IS WHAT COUNTS. Prove the row's statement (the work); the ties are given (YtonjhkefnijlhaaDoorTie.lean); close each card by the builder's one call (the guide's Derived/Test/ToyasCard.lean, 'card_holds'). Laid BY PROGRAM, IN A SANDBOX (cutbox-door.mjs). By AI agents, Wed Nov 11 2026. No macro, syntax, notation, axiom, sorry.
-/
import Derived.Test.YtonjhkefnijlhaaDoorRows
import GoSem.ClaimSeven
namespace Go.Proofs.YtonjhkefnijlhaaDoor
namespace Rows

/-- THE TIED CARD OF 'longshorelaw16.PortParses'. -/
def portParsesCard : Claim7 := { stood := { row := portParsesRow, standIns := [], harness := (true, "5eb9c46e767a48d3a739f11d2e76c87f017eac24ce638182b1357fbdc1d0be55"), looks := false }, kinds := [], alts := [], laidByText := true, laidKinds := [.data, .pinned], laidTests := true, laidLooks := .later }
def PortParsesCardSaid : Prop := Claim7.holds Tryd.pinned (.plain (OpenSpec.ofChange portParsesSpec)) portParsesCard

/-- THE TIED CARD OF 'longshorelaw16.PortTexts'. -/
def portTextsCard : Claim7 := { stood := { row := portTextsRow, standIns := [], harness := (true, "5eb9c46e767a48d3a739f11d2e76c87f017eac24ce638182b1357fbdc1d0be55"), looks := false }, kinds := [], alts := [], laidByText := true, laidKinds := [.data, .pinned], laidTests := true, laidLooks := .later }
def PortTextsCardSaid : Prop := Claim7.holds Tryd.pinned (.plain (OpenSpec.ofChange portTextsSpec)) portTextsCard

/-- THE TIED CARD OF 'longshorelaw15.WordSplits'. -/
def wordSplitsCard : Claim7 := { stood := { row := wordSplitsRow, standIns := [], harness := (true, "5eb9c46e767a48d3a739f11d2e76c87f017eac24ce638182b1357fbdc1d0be55"), looks := false }, kinds := [], alts := [], laidByText := true, laidKinds := [.data, .pinned], laidTests := true, laidLooks := .later }
def WordSplitsCardSaid : Prop := Claim7.holds Tryd.pinned (.plain (OpenSpec.ofChange wordSplitsSpec)) wordSplitsCard

/-- THE TIED CARD OF 'longshorelaw15.WordJoins'. -/
def wordJoinsCard : Claim7 := { stood := { row := wordJoinsRow, standIns := [], harness := (true, "5eb9c46e767a48d3a739f11d2e76c87f017eac24ce638182b1357fbdc1d0be55"), looks := false }, kinds := [], alts := [], laidByText := true, laidKinds := [.data, .pinned], laidTests := true, laidLooks := .later }
def WordJoinsCardSaid : Prop := Claim7.holds Tryd.pinned (.plain (OpenSpec.ofChange wordJoinsSpec)) wordJoinsCard

/-- THE TIED CARD OF 'longshorelaw15.WordBack'. -/
def wordBackCard : Claim7 := { stood := { row := wordBackRow, standIns := [], harness := (true, "5eb9c46e767a48d3a739f11d2e76c87f017eac24ce638182b1357fbdc1d0be55"), looks := false }, kinds := [], alts := [], laidByText := true, laidKinds := [.data, .pinned], laidTests := true, laidLooks := .later }
def WordBackCardSaid : Prop := Claim7.holds Tryd.pinned (.plain (OpenSpec.ofChange wordBackSpec)) wordBackCard

/-- THE TIED CARD OF 'longshorelaw16.PortLists'. -/
def portListsCard : Claim7 := { stood := { row := portListsRow, standIns := [], harness := (true, "5eb9c46e767a48d3a739f11d2e76c87f017eac24ce638182b1357fbdc1d0be55"), looks := false }, kinds := [], alts := [], laidByText := true, laidKinds := [.data, .pinned], laidTests := true, laidLooks := .later }
def PortListsCardSaid : Prop := Claim7.holds Tryd.pinned (.plain (OpenSpec.ofChange portListsSpec)) portListsCard

/-- THE SECOND FORM's CARD OF 'longshorelaw16.PortParses'. -/
def portParsesUptoCard : Claim7 := { stood := { row := portParsesUptoRow, standIns := [], harness := (true, "5eb9c46e767a48d3a739f11d2e76c87f017eac24ce638182b1357fbdc1d0be55"), looks := false }, kinds := [], alts := [], laidByText := true, laidKinds := [.data, .pinned], laidTests := true, laidLooks := .later }
def PortParsesUptoCardSaid : Prop := Claim7.holds Tryd.pinned (.plain (OpenSpec.upto portParsesSpec)) portParsesUptoCard

/-- THE SECOND FORM's CARD OF 'longshorelaw16.PortTexts'. -/
def portTextsUptoCard : Claim7 := { stood := { row := portTextsUptoRow, standIns := [], harness := (true, "5eb9c46e767a48d3a739f11d2e76c87f017eac24ce638182b1357fbdc1d0be55"), looks := false }, kinds := [], alts := [], laidByText := true, laidKinds := [.data, .pinned], laidTests := true, laidLooks := .later }
def PortTextsUptoCardSaid : Prop := Claim7.holds Tryd.pinned (.plain (OpenSpec.upto portTextsSpec)) portTextsUptoCard

/-- THE SECOND FORM's CARD OF 'longshorelaw15.WordSplits'. -/
def wordSplitsUptoCard : Claim7 := { stood := { row := wordSplitsUptoRow, standIns := [], harness := (true, "5eb9c46e767a48d3a739f11d2e76c87f017eac24ce638182b1357fbdc1d0be55"), looks := false }, kinds := [], alts := [], laidByText := true, laidKinds := [.data, .pinned], laidTests := true, laidLooks := .later }
def WordSplitsUptoCardSaid : Prop := Claim7.holds Tryd.pinned (.plain (OpenSpec.upto wordSplitsSpec)) wordSplitsUptoCard

/-- THE SECOND FORM's CARD OF 'longshorelaw15.WordJoins'. -/
def wordJoinsUptoCard : Claim7 := { stood := { row := wordJoinsUptoRow, standIns := [], harness := (true, "5eb9c46e767a48d3a739f11d2e76c87f017eac24ce638182b1357fbdc1d0be55"), looks := false }, kinds := [], alts := [], laidByText := true, laidKinds := [.data, .pinned], laidTests := true, laidLooks := .later }
def WordJoinsUptoCardSaid : Prop := Claim7.holds Tryd.pinned (.plain (OpenSpec.upto wordJoinsSpec)) wordJoinsUptoCard

/-- THE SECOND FORM's CARD OF 'longshorelaw15.WordBack'. -/
def wordBackUptoCard : Claim7 := { stood := { row := wordBackUptoRow, standIns := [], harness := (true, "5eb9c46e767a48d3a739f11d2e76c87f017eac24ce638182b1357fbdc1d0be55"), looks := false }, kinds := [], alts := [], laidByText := true, laidKinds := [.data, .pinned], laidTests := true, laidLooks := .later }
def WordBackUptoCardSaid : Prop := Claim7.holds Tryd.pinned (.plain (OpenSpec.upto wordBackSpec)) wordBackUptoCard

/-- THE SECOND FORM's CARD OF 'longshorelaw16.PortLists'. -/
def portListsUptoCard : Claim7 := { stood := { row := portListsUptoRow, standIns := [], harness := (true, "5eb9c46e767a48d3a739f11d2e76c87f017eac24ce638182b1357fbdc1d0be55"), looks := false }, kinds := [], alts := [], laidByText := true, laidKinds := [.data, .pinned], laidTests := true, laidLooks := .later }
def PortListsUptoCardSaid : Prop := Claim7.holds Tryd.pinned (.plain (OpenSpec.upto portListsSpec)) portListsUptoCard
end Rows
end Go.Proofs.YtonjhkefnijlhaaDoor
