/-
  DERIVED. GIVEN WITH THE SEED: THE CARDS: each row of YtljnmojkhajolaaDoorRows.lean that lists a variable, with what it lists TIED to the program's text (the seventh form; the later family's looks); each row that meets fmt, with fmt's text TOLD by the authors' own Lean function (tested against real Go, not proved from fmt's source: count such statements apart). THE CARD IS WHAT COUNTS. Prove the row's statement (the work); the ties are given (YtljnmojkhajolaaDoorTie.lean); close each card by the builder's one call (the guide's Derived/Test/ToyasCard.lean, 'card_holds'). Laid BY PROGRAM, IN A SANDBOX (cutbox-door.mjs). By AI agents, Wed Nov 11 2026. No macro, syntax, notation, axiom, sorry.
-/
import Derived.Test.YtljnmojkhajolaaDoorRows
import GoSem.ClaimSeven
namespace Go.Proofs.YtljnmojkhajolaaDoor
namespace Rows

/-- THE TIED CARD OF 'longshorelaw13.TmplBack'. -/
def tmplBackCard : Claim7 := { stood := { row := tmplBackRow, standIns := [], harness := (true, "ac791c101624aaeaa524b8612bcb78bc4c62116614f321cec713bedb397a8e6f"), looks := false }, kinds := [], alts := [], laidByText := true, laidKinds := [.data, .pinned], laidTests := true, laidLooks := .later }
def TmplBackCardSaid : Prop := Claim7.holds Tryd.pinned (.plain (OpenSpec.ofChange tmplBackSpec)) tmplBackCard

/-- THE TIED CARD OF 'longshorelaw13.TmplTells'. -/
def tmplTellsCard : Claim7 := { stood := { row := tmplTellsRow, standIns := [], harness := (true, "ac791c101624aaeaa524b8612bcb78bc4c62116614f321cec713bedb397a8e6f"), looks := false }, kinds := [], alts := [], laidByText := true, laidKinds := [.data, .pinned], laidTests := true, laidLooks := .later }
def TmplTellsCardSaid : Prop := Claim7.holds Tryd.pinned (.plain (OpenSpec.ofChange tmplTellsSpec)) tmplTellsCard

/-- THE SECOND FORM's CARD OF 'longshorelaw13.TmplBack'. -/
def tmplBackUptoCard : Claim7 := { stood := { row := tmplBackUptoRow, standIns := [], harness := (true, "ac791c101624aaeaa524b8612bcb78bc4c62116614f321cec713bedb397a8e6f"), looks := false }, kinds := [], alts := [], laidByText := true, laidKinds := [.data, .pinned], laidTests := true, laidLooks := .later }
def TmplBackUptoCardSaid : Prop := Claim7.holds Tryd.pinned (.plain (OpenSpec.upto tmplBackSpec)) tmplBackUptoCard

/-- THE SECOND FORM's CARD OF 'longshorelaw13.TmplTells'. -/
def tmplTellsUptoCard : Claim7 := { stood := { row := tmplTellsUptoRow, standIns := [], harness := (true, "ac791c101624aaeaa524b8612bcb78bc4c62116614f321cec713bedb397a8e6f"), looks := false }, kinds := [], alts := [], laidByText := true, laidKinds := [.data, .pinned], laidTests := true, laidLooks := .later }
def TmplTellsUptoCardSaid : Prop := Claim7.holds Tryd.pinned (.plain (OpenSpec.upto tmplTellsSpec)) tmplTellsUptoCard
end Rows
end Go.Proofs.YtljnmojkhajolaaDoor
