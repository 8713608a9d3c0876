/-
  No cell of these rows narrows 'for every input' (looked for: loops, veiled, ifaces, maps, wideKeys, modest, calm, conditions, laid).
  DERIVED. THE GIVEN ROWS OF THIS SEAT. 5 by the template 'for every input the law returns true; each argument reads behind the call as it read before'; 0 by the template 'total and deterministic' (their statements: YtlkigifojblliaaTotals.lean).
  GIVEN WITH THE SEED: the statements are not yours to turn. If you find one false, say at which input.
  Laid BY PROGRAM, IN A SANDBOX (cutbox-rows.mjs): the forced cells as the released guide's own fill.sh prints them over the translation b4745fdb69eed303… (all of the seat's roots in one cut). By AI agents, Wed Nov 11 2026. No macro, syntax, notation, axiom, sorry.
-/
import Derived.Test.YtlkigifojblliaaChecked
import GoSem.Claim
import GoSem.ClaimJoined
import GoSem.ClaimMapViews
import Derived.JoinedTies
import Derived.KernelRfl
namespace Go.Proofs.Ytlkigifojblliaa
/- THE CELL 'sum', in the pinned program and in every row, IS THE sha256 OF THE DUMP (.gsa) THAT YtlkigifojblliaaProg.lean LOADS. Nothing in Lean hashes anything: it is a label: what it is worth is what the hold of that sum in a sandbox is worth. -/
noncomputable def Try.pinned : Pinned := { name := "ytlkigifojblliaa", sum := "b4745fdb69eed30315d5c86828f0d6dc5fe0131a1dd2f3c0e2a0c72b4f413bc1", checked := Try.checked }
namespace Rows
def none {H : Type} : Left H := { results := [], args := [] }

/-- 'longshorelaw31.AgainDue': WHATEVER THE INPUT: true; the input reads as it did. -/
def againDueSpec : ChangeSpec := { name := "againDue", fn := fun _ => fun
  | [d1, d2, d3, d4, d5] => { results := [.lit (.bool true)], args := [d1, d2, d3, d4, d5] }
  | _ => none }
def againDueRow : OpenClaim := { program := "ytlkigifojblliaa", sum := "b4745fdb69eed30315d5c86828f0d6dc5fe0131a1dd2f3c0e2a0c72b4f413bc1", func := "longshore/longshorelaw31.AgainDue", spec := "againDue", apart := false }
def AgainDueSaid : Prop := againDueRow.holds Try.pinned (OpenSpec.ofChange againDueSpec)

/-- ITS FALSE NEIGHBOUR: 'it returns false'. Refute it at one input. -/
def againDueWrong : ChangeSpec := { name := "againDue", fn := fun _ => fun
  | [d1, d2, d3, d4, d5] => { results := [.lit (.bool false)], args := [d1, d2, d3, d4, d5] }
  | _ => none }
def AgainDueWrongFalsely : Prop := againDueRow.holds Try.pinned (OpenSpec.ofChange againDueWrong)

/-- 'longshorelaw31.AgainWaits': WHATEVER THE INPUT: true; the input reads as it did. -/
def againWaitsSpec : ChangeSpec := { name := "againWaits", fn := fun _ => fun
  | [d] => { results := [.lit (.bool true)], args := [d] }
  | _ => none }
def againWaitsRow : OpenClaim := { program := "ytlkigifojblliaa", sum := "b4745fdb69eed30315d5c86828f0d6dc5fe0131a1dd2f3c0e2a0c72b4f413bc1", func := "longshore/longshorelaw31.AgainWaits", spec := "againWaits", apart := false }
def AgainWaitsSaid : Prop := againWaitsRow.holds Try.pinned (OpenSpec.ofChange againWaitsSpec)

/-- ITS FALSE NEIGHBOUR: 'it returns false'. Refute it at one input. -/
def againWaitsWrong : ChangeSpec := { name := "againWaits", fn := fun _ => fun
  | [d] => { results := [.lit (.bool false)], args := [d] }
  | _ => none }
def AgainWaitsWrongFalsely : Prop := againWaitsRow.holds Try.pinned (OpenSpec.ofChange againWaitsWrong)

/-- 'longshorelaw31.AgainGrows': WHATEVER THE INPUT: true; the input reads as it did. -/
def againGrowsSpec : ChangeSpec := { name := "againGrows", fn := fun _ => fun
  | [d1, d2, d3, d4, d5] => { results := [.lit (.bool true)], args := [d1, d2, d3, d4, d5] }
  | _ => none }
def againGrowsRow : OpenClaim := { program := "ytlkigifojblliaa", sum := "b4745fdb69eed30315d5c86828f0d6dc5fe0131a1dd2f3c0e2a0c72b4f413bc1", func := "longshore/longshorelaw31.AgainGrows", spec := "againGrows", apart := false }
def AgainGrowsSaid : Prop := againGrowsRow.holds Try.pinned (OpenSpec.ofChange againGrowsSpec)

/-- ITS FALSE NEIGHBOUR: 'it returns false'. Refute it at one input. -/
def againGrowsWrong : ChangeSpec := { name := "againGrows", fn := fun _ => fun
  | [d1, d2, d3, d4, d5] => { results := [.lit (.bool false)], args := [d1, d2, d3, d4, d5] }
  | _ => none }
def AgainGrowsWrongFalsely : Prop := againGrowsRow.holds Try.pinned (OpenSpec.ofChange againGrowsWrong)

/-- 'longshorelaw30.ProbeAsks': WHATEVER THE INPUT: true; the input reads as it did. -/
def probeAsksSpec : ChangeSpec := { name := "probeAsks", fn := fun _ => fun
  | [d1, d2, d3, d4, d5] => { results := [.lit (.bool true)], args := [d1, d2, d3, d4, d5] }
  | _ => none }
def probeAsksRow : OpenClaim := { program := "ytlkigifojblliaa", sum := "b4745fdb69eed30315d5c86828f0d6dc5fe0131a1dd2f3c0e2a0c72b4f413bc1", func := "longshore/longshorelaw30.ProbeAsks", spec := "probeAsks", apart := false }
def ProbeAsksSaid : Prop := probeAsksRow.holds Try.pinned (OpenSpec.ofChange probeAsksSpec)

/-- ITS FALSE NEIGHBOUR: 'it returns false'. Refute it at one input. -/
def probeAsksWrong : ChangeSpec := { name := "probeAsks", fn := fun _ => fun
  | [d1, d2, d3, d4, d5] => { results := [.lit (.bool false)], args := [d1, d2, d3, d4, d5] }
  | _ => none }
def ProbeAsksWrongFalsely : Prop := probeAsksRow.holds Try.pinned (OpenSpec.ofChange probeAsksWrong)

/-- 'longshorelaw30.ProbeRuns': WHATEVER THE INPUT: true; the input reads as it did. -/
def probeRunsSpec : ChangeSpec := { name := "probeRuns", fn := fun _ => fun
  | [d1, d2, d3] => { results := [.lit (.bool true)], args := [d1, d2, d3] }
  | _ => none }
def probeRunsRow : OpenClaim := { program := "ytlkigifojblliaa", sum := "b4745fdb69eed30315d5c86828f0d6dc5fe0131a1dd2f3c0e2a0c72b4f413bc1", func := "longshore/longshorelaw30.ProbeRuns", spec := "probeRuns", apart := false }
def ProbeRunsSaid : Prop := probeRunsRow.holds Try.pinned (OpenSpec.ofChange probeRunsSpec)

/-- ITS FALSE NEIGHBOUR: 'it returns false'. Refute it at one input. -/
def probeRunsWrong : ChangeSpec := { name := "probeRuns", fn := fun _ => fun
  | [d1, d2, d3] => { results := [.lit (.bool false)], args := [d1, d2, d3] }
  | _ => none }
def ProbeRunsWrongFalsely : Prop := probeRunsRow.holds Try.pinned (OpenSpec.ofChange probeRunsWrong)

/- THE SECOND FORM. 'bulk': how many values and letters a reading holds, each counted each time it is reached (what is shared counts as often as it is met; a slice's spare places count too). A statement '..UptoSaid' is the law's where the arguments, and the package variables that the reading takes, are together of bulk at most 1048576: NARROWER than '..Said'. Prove '..Said' where nothing that the law and all that it calls make is longer than what came in: it says more and counts as full. Else prove '..UptoSaid'. A law counts once. -/
mutual
def uptoBulk {H : Type} : DataW H → Nat
  | .lit (.string bytes) => bytes.length + 1
  | .lit _ => 1
  | .nil => 1
  | .ptr d => uptoBulk d + 1
  | .slice elems spare => uptoBulkAll elems + uptoBulkAll spare + 1
  | .agg parts => uptoBulkAll parts + 1
  | .iface _ d => uptoBulk d + 1
  | .map entries => uptoBulkEntries entries + 1
  | .held _ => 1
def uptoBulkAll {H : Type} : List (DataW H) → Nat
  | [] => 0
  | d :: r => uptoBulk d + uptoBulkAll r
def uptoBulkEntries {H : Type} : List (Lit × DataW H) → Nat
  | [] => 0
  | x :: r => uptoBulkEntry x + uptoBulkEntries r
def uptoBulkEntry {H : Type} : Lit × DataW H → Nat
  | (.string bytes, d) => bytes.length + uptoBulk d + 1
  | (_, d) => uptoBulk d + 1
 end
def uptoSmall : (H : Type) → List (DataW H) → Bool := fun _ ds => decide (uptoBulkAll ds ≤ 1048576)
def OpenSpec.upto (s : _root_.Go.ChangeSpec) : _root_.Go.OpenSpec := { _root_.Go.OpenSpec.ofChange s with cond := some uptoSmall }

/-- 'longshorelaw31.AgainDue', WHERE WHAT IT READS IS OF BULK AT MOST 1048576: true; the input reads as it did. -/
def againDueUptoRow : OpenClaim := { program := "ytlkigifojblliaa", sum := "b4745fdb69eed30315d5c86828f0d6dc5fe0131a1dd2f3c0e2a0c72b4f413bc1", func := "longshore/longshorelaw31.AgainDue", spec := "againDue", apart := false, narrowed := true }
def AgainDueUptoSaid : Prop := againDueUptoRow.holds Try.pinned (OpenSpec.upto againDueSpec)

/-- 'longshorelaw31.AgainWaits', WHERE WHAT IT READS IS OF BULK AT MOST 1048576: true; the input reads as it did. -/
def againWaitsUptoRow : OpenClaim := { program := "ytlkigifojblliaa", sum := "b4745fdb69eed30315d5c86828f0d6dc5fe0131a1dd2f3c0e2a0c72b4f413bc1", func := "longshore/longshorelaw31.AgainWaits", spec := "againWaits", apart := false, narrowed := true }
def AgainWaitsUptoSaid : Prop := againWaitsUptoRow.holds Try.pinned (OpenSpec.upto againWaitsSpec)

/-- 'longshorelaw31.AgainGrows', WHERE WHAT IT READS IS OF BULK AT MOST 1048576: true; the input reads as it did. -/
def againGrowsUptoRow : OpenClaim := { program := "ytlkigifojblliaa", sum := "b4745fdb69eed30315d5c86828f0d6dc5fe0131a1dd2f3c0e2a0c72b4f413bc1", func := "longshore/longshorelaw31.AgainGrows", spec := "againGrows", apart := false, narrowed := true }
def AgainGrowsUptoSaid : Prop := againGrowsUptoRow.holds Try.pinned (OpenSpec.upto againGrowsSpec)

/-- 'longshorelaw30.ProbeAsks', WHERE WHAT IT READS IS OF BULK AT MOST 1048576: true; the input reads as it did. -/
def probeAsksUptoRow : OpenClaim := { program := "ytlkigifojblliaa", sum := "b4745fdb69eed30315d5c86828f0d6dc5fe0131a1dd2f3c0e2a0c72b4f413bc1", func := "longshore/longshorelaw30.ProbeAsks", spec := "probeAsks", apart := false, narrowed := true }
def ProbeAsksUptoSaid : Prop := probeAsksUptoRow.holds Try.pinned (OpenSpec.upto probeAsksSpec)

/-- 'longshorelaw30.ProbeRuns', WHERE WHAT IT READS IS OF BULK AT MOST 1048576: true; the input reads as it did. -/
def probeRunsUptoRow : OpenClaim := { program := "ytlkigifojblliaa", sum := "b4745fdb69eed30315d5c86828f0d6dc5fe0131a1dd2f3c0e2a0c72b4f413bc1", func := "longshore/longshorelaw30.ProbeRuns", spec := "probeRuns", apart := false, narrowed := true }
def ProbeRunsUptoSaid : Prop := probeRunsUptoRow.holds Try.pinned (OpenSpec.upto probeRunsSpec)

end Rows
end Go.Proofs.Ytlkigifojblliaa
