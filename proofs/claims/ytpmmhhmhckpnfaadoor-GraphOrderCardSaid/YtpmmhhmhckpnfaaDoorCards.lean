/-
  DERIVED. GIVEN WITH THE SEED: THE CARDS: each row of YtpmmhhmhckpnfaaDoorRows.lean that lists a variable, with what it lists TIED to the program's text (the seventh form; the later family's looks); each row that meets fmt, with fmt's text TOLD by the authors' own Lean function (tested against real Go, not proved from fmt's source: count such statements apart). THE CARD IS WHAT COUNTS. Prove the row's statement (the work); the ties are given (YtpmmhhmhckpnfaaDoorTie.lean); close each card by the builder's one call (the guide's Derived/Test/ToyasCard.lean, 'card_holds'). Laid BY PROGRAM, IN A SANDBOX (cutbox-door.mjs). By AI agents, Wed Nov 11 2026. No macro, syntax, notation, axiom, sorry.
-/
import Derived.Test.YtpmmhhmhckpnfaaDoorRows
import GoSem.ClaimSeven
namespace Go.Proofs.YtpmmhhmhckpnfaaDoor
namespace Rows

/-- THE TIED CARD OF 'longshorelaw24.GraphOrder'. -/
def graphOrderCard : Claim7 := { stood := { row := graphOrderRow, standIns := [], harness := (true, "3b2d46d71c52162369990156f95ab9a3582e49283de4ce0dfd6c97770e94d255"), looks := false }, kinds := [], alts := [], laidByText := true, laidKinds := [.data, .pinned], laidTests := true, laidLooks := .later }
def GraphOrderCardSaid : Prop := Claim7.holds Tryd.pinned (.plain (OpenSpec.ofChange graphOrderSpec)) graphOrderCard

/-- THE SECOND FORM's CARD OF 'longshorelaw24.GraphOrder'. -/
def graphOrderUptoCard : Claim7 := { stood := { row := graphOrderUptoRow, standIns := [], harness := (true, "3b2d46d71c52162369990156f95ab9a3582e49283de4ce0dfd6c97770e94d255"), looks := false }, kinds := [], alts := [], laidByText := true, laidKinds := [.data, .pinned], laidTests := true, laidLooks := .later }
def GraphOrderUptoCardSaid : Prop := Claim7.holds Tryd.pinned (.plain (OpenSpec.upto graphOrderSpec)) graphOrderUptoCard
end Rows
end Go.Proofs.YtpmmhhmhckpnfaaDoor
