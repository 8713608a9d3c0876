/-
  NARROWER THAN 'FOR EVERY INPUT', by the rows' own cells (each row's printed sentence says how): BlockParses: laid · BlockEntries: laid · EmitWrites: loops, laid · EmitBack: loops, laid · EmitAgain: laid.
  DERIVED. THE GIVEN ROWS OF THIS SEAT. 5 by the template 'for every input the law returns true; each argument reads behind the call as it read before'; 0 by the template 'total and deterministic' (their statements: YtefojkdckfidcaaGreatDoorTotals.lean).
  GIVEN WITH THE SEED: the statements are not yours to turn. If you find one false, say at which input.
  Laid BY PROGRAM, IN A SANDBOX (cutbox-rows.mjs): the forced cells as the released guide's own fill.sh prints them over the translation b0fbeee64a1c3c46… (all of the seat's roots in one cut). By AI agents, Wed Nov 11 2026. No macro, syntax, notation, axiom, sorry.
-/
import Derived.Test.YtefojkdckfidcaaGreatDoorChecked
import GoSem.PinnedTables
import GoSem.Claim
import GoSem.ClaimJoined
import GoSem.ClaimMapViews
import Derived.JoinedTies
import Derived.KernelRfl
namespace Go.Proofs.YtefojkdckfidcaaGreatDoor
/- THE CELL 'sum', in the pinned program and in every row, IS THE sha256 OF THE DUMP (.gsa) THAT YtefojkdckfidcaaGreatDoorProg.lean LOADS. Nothing in Lean hashes anything: it is a label: what it is worth is what the hold of that sum in a sandbox is worth. -/
noncomputable def Tryz.pinned : Pinned := { name := "ytefojkdckfidcaagreatdoor", sum := "b0fbeee64a1c3c46a57e762e7eec159f87ebf23ae26041c911b88869752ebc23", checked := Tryz.checked }
namespace Rows
def none {H : Type} : Left H := { results := [], args := [] }

/- WHAT THE LISTED PACKAGE-LEVEL VARIABLES READ AS WHEN THE CALL BEGINS. Each datum BY PROGRAM (the guide's laid-datum.mjs) off the statement by which the dump's own 'gosem.cut.vars' lays the variable. In a bare row this is a premise. The card (YtefojkdckfidcaaGreatDoorCards.lean) ties it to the program's text. -/
def laid_unicode_utf8_acceptRanges {H : Type} : DataW H := .agg [.agg [.lit (.int .u8 128), .lit (.int .u8 191)], .agg [.lit (.int .u8 160), .lit (.int .u8 191)], .agg [.lit (.int .u8 128), .lit (.int .u8 159)], .agg [.lit (.int .u8 144), .lit (.int .u8 191)], .agg [.lit (.int .u8 128), .lit (.int .u8 143)], .agg [.lit (.int .u8 0), .lit (.int .u8 0)], .agg [.lit (.int .u8 0), .lit (.int .u8 0)], .agg [.lit (.int .u8 0), .lit (.int .u8 0)], .agg [.lit (.int .u8 0), .lit (.int .u8 0)], .agg [.lit (.int .u8 0), .lit (.int .u8 0)], .agg [.lit (.int .u8 0), .lit (.int .u8 0)], .agg [.lit (.int .u8 0), .lit (.int .u8 0)], .agg [.lit (.int .u8 0), .lit (.int .u8 0)], .agg [.lit (.int .u8 0), .lit (.int .u8 0)], .agg [.lit (.int .u8 0), .lit (.int .u8 0)], .agg [.lit (.int .u8 0), .lit (.int .u8 0)]]
/-- One of Go's own tables, pinned by name: the form's constant. -/
def laid_unicode_utf8_first : DataW Unit := Go.Pinned.utf8First

/-- 'longshorelaw10.BlockParses': WHATEVER THE INPUT: true; the input reads as it did. -/
def blockParsesSpec : ChangeSpec := { name := "blockParses", fn := fun _ => fun
  | [d] => { results := [.lit (.bool true)], args := [d] }
  | _ => none }
def blockParsesRow : OpenClaim := { program := "ytefojkdckfidcaagreatdoor", sum := "b0fbeee64a1c3c46a57e762e7eec159f87ebf23ae26041c911b88869752ebc23", func := "longshore/longshorelaw10.BlockParses", spec := "blockParses", inPlace := ["internal/bytealg.IndexByteString", "internal/bytealg.IndexString"], unfollowed := true, recurses := true, named := ["internal/bytealg.MaxLen", "unicode/utf8.first", "unicode/utf8.acceptRanges"], apart := false, laid := [("unicode/utf8.acceptRanges", laid_unicode_utf8_acceptRanges), ("unicode/utf8.first", laid_unicode_utf8_first)] }
def BlockParsesSaid : Prop := blockParsesRow.holds Tryz.pinned (OpenSpec.ofChange blockParsesSpec)

/-- ITS FALSE NEIGHBOUR: 'it returns false'. Refute it at one input. -/
def blockParsesWrong : ChangeSpec := { name := "blockParses", fn := fun _ => fun
  | [d] => { results := [.lit (.bool false)], args := [d] }
  | _ => none }
def BlockParsesWrongFalsely : Prop := blockParsesRow.holds Tryz.pinned (OpenSpec.ofChange blockParsesWrong)

/-- 'longshorelaw10.BlockEntries': WHATEVER THE INPUT: true; the input reads as it did. -/
def blockEntriesSpec : ChangeSpec := { name := "blockEntries", fn := fun _ => fun
  | [d] => { results := [.lit (.bool true)], args := [d] }
  | _ => none }
def blockEntriesRow : OpenClaim := { program := "ytefojkdckfidcaagreatdoor", sum := "b0fbeee64a1c3c46a57e762e7eec159f87ebf23ae26041c911b88869752ebc23", func := "longshore/longshorelaw10.BlockEntries", spec := "blockEntries", inPlace := ["internal/bytealg.IndexByteString", "internal/bytealg.IndexString"], unfollowed := true, recurses := true, named := ["internal/bytealg.MaxLen", "unicode/utf8.first", "unicode/utf8.acceptRanges"], apart := false, laid := [("unicode/utf8.acceptRanges", laid_unicode_utf8_acceptRanges), ("unicode/utf8.first", laid_unicode_utf8_first)] }
def BlockEntriesSaid : Prop := blockEntriesRow.holds Tryz.pinned (OpenSpec.ofChange blockEntriesSpec)

/-- ITS FALSE NEIGHBOUR: 'it returns false'. Refute it at one input. -/
def blockEntriesWrong : ChangeSpec := { name := "blockEntries", fn := fun _ => fun
  | [d] => { results := [.lit (.bool false)], args := [d] }
  | _ => none }
def BlockEntriesWrongFalsely : Prop := blockEntriesRow.holds Tryz.pinned (OpenSpec.ofChange blockEntriesWrong)

/-- 'longshorelaw11.EmitWrites': WHATEVER THE INPUT: true; the input reads as it did. -/
def emitWritesSpec : ChangeSpec := { name := "emitWrites", fn := fun _ => fun
  | [d1, d2] => { results := [.lit (.bool true)], args := [d1, d2] }
  | _ => none }
def emitWritesRow : OpenClaim := { program := "ytefojkdckfidcaagreatdoor", sum := "b0fbeee64a1c3c46a57e762e7eec159f87ebf23ae26041c911b88869752ebc23", func := "longshore/longshorelaw11.EmitWrites", spec := "emitWrites", inPlace := ["internal/bytealg.IndexByteString", "internal/bytealg.IndexString", "internal/abi.NoEscape"], unfollowed := true, recurses := true, named := ["internal/bytealg.MaxLen", "unicode/utf8.first", "unicode/utf8.acceptRanges"], loops := true, apart := false, laid := [("unicode/utf8.acceptRanges", laid_unicode_utf8_acceptRanges), ("unicode/utf8.first", laid_unicode_utf8_first)] }
def EmitWritesSaid : Prop := emitWritesRow.holds Tryz.pinned (OpenSpec.ofChange emitWritesSpec)

/-- ITS FALSE NEIGHBOUR: 'it returns false'. Refute it at one input. -/
def emitWritesWrong : ChangeSpec := { name := "emitWrites", fn := fun _ => fun
  | [d1, d2] => { results := [.lit (.bool false)], args := [d1, d2] }
  | _ => none }
def EmitWritesWrongFalsely : Prop := emitWritesRow.holds Tryz.pinned (OpenSpec.ofChange emitWritesWrong)

/-- 'longshorelaw11.EmitBack': WHATEVER THE INPUT: true; the input reads as it did. -/
def emitBackSpec : ChangeSpec := { name := "emitBack", fn := fun _ => fun
  | [d] => { results := [.lit (.bool true)], args := [d] }
  | _ => none }
def emitBackRow : OpenClaim := { program := "ytefojkdckfidcaagreatdoor", sum := "b0fbeee64a1c3c46a57e762e7eec159f87ebf23ae26041c911b88869752ebc23", func := "longshore/longshorelaw11.EmitBack", spec := "emitBack", inPlace := ["internal/bytealg.IndexByteString", "internal/bytealg.IndexString", "internal/abi.NoEscape"], unfollowed := true, recurses := true, named := ["internal/bytealg.MaxLen", "unicode/utf8.first", "unicode/utf8.acceptRanges"], loops := true, apart := false, laid := [("unicode/utf8.acceptRanges", laid_unicode_utf8_acceptRanges), ("unicode/utf8.first", laid_unicode_utf8_first)] }
def EmitBackSaid : Prop := emitBackRow.holds Tryz.pinned (OpenSpec.ofChange emitBackSpec)

/-- ITS FALSE NEIGHBOUR: 'it returns false'. Refute it at one input. -/
def emitBackWrong : ChangeSpec := { name := "emitBack", fn := fun _ => fun
  | [d] => { results := [.lit (.bool false)], args := [d] }
  | _ => none }
def EmitBackWrongFalsely : Prop := emitBackRow.holds Tryz.pinned (OpenSpec.ofChange emitBackWrong)

/-- 'longshorelaw11.EmitAgain': WHATEVER THE INPUT: true; the input reads as it did. -/
def emitAgainSpec : ChangeSpec := { name := "emitAgain", fn := fun _ => fun
  | [d1, d2] => { results := [.lit (.bool true)], args := [d1, d2] }
  | _ => none }
def emitAgainRow : OpenClaim := { program := "ytefojkdckfidcaagreatdoor", sum := "b0fbeee64a1c3c46a57e762e7eec159f87ebf23ae26041c911b88869752ebc23", func := "longshore/longshorelaw11.EmitAgain", spec := "emitAgain", inPlace := ["internal/bytealg.IndexByteString", "internal/bytealg.IndexString", "internal/abi.NoEscape"], unfollowed := true, recurses := true, named := ["internal/bytealg.MaxLen", "unicode/utf8.first", "unicode/utf8.acceptRanges"], apart := false, laid := [("unicode/utf8.acceptRanges", laid_unicode_utf8_acceptRanges), ("unicode/utf8.first", laid_unicode_utf8_first)] }
def EmitAgainSaid : Prop := emitAgainRow.holds Tryz.pinned (OpenSpec.ofChange emitAgainSpec)

/-- ITS FALSE NEIGHBOUR: 'it returns false'. Refute it at one input. -/
def emitAgainWrong : ChangeSpec := { name := "emitAgain", fn := fun _ => fun
  | [d1, d2] => { results := [.lit (.bool false)], args := [d1, d2] }
  | _ => none }
def EmitAgainWrongFalsely : Prop := emitAgainRow.holds Tryz.pinned (OpenSpec.ofChange emitAgainWrong)

/- THE SECOND FORM. 'bulk': how many values and letters a reading holds, each counted each time it is reached (what is shared counts as often as it is met; a slice's spare places count too). A statement '..UptoSaid' is the law's where the arguments, and the package variables that the reading takes, are together of bulk at most 1048576: NARROWER than '..Said'. Prove '..Said' where nothing that the law and all that it calls make is longer than what came in: it says more and counts as full. Else prove '..UptoSaid'. A law counts once. -/
mutual
def uptoBulk {H : Type} : DataW H → Nat
  | .lit (.string bytes) => bytes.length + 1
  | .lit _ => 1
  | .nil => 1
  | .ptr d => uptoBulk d + 1
  | .slice elems spare => uptoBulkAll elems + uptoBulkAll spare + 1
  | .agg parts => uptoBulkAll parts + 1
  | .iface _ d => uptoBulk d + 1
  | .map entries => uptoBulkEntries entries + 1
  | .held _ => 1
def uptoBulkAll {H : Type} : List (DataW H) → Nat
  | [] => 0
  | d :: r => uptoBulk d + uptoBulkAll r
def uptoBulkEntries {H : Type} : List (Lit × DataW H) → Nat
  | [] => 0
  | x :: r => uptoBulkEntry x + uptoBulkEntries r
def uptoBulkEntry {H : Type} : Lit × DataW H → Nat
  | (.string bytes, d) => bytes.length + uptoBulk d + 1
  | (_, d) => uptoBulk d + 1
 end
def uptoSmall : (H : Type) → List (DataW H) → Bool := fun _ ds => decide (uptoBulkAll ds ≤ 1048576)
def OpenSpec.upto (s : _root_.Go.ChangeSpec) : _root_.Go.OpenSpec := { _root_.Go.OpenSpec.ofChange s with cond := some uptoSmall }

/-- 'longshorelaw10.BlockParses', WHERE WHAT IT READS IS OF BULK AT MOST 1048576: true; the input reads as it did. -/
def blockParsesUptoRow : OpenClaim := { program := "ytefojkdckfidcaagreatdoor", sum := "b0fbeee64a1c3c46a57e762e7eec159f87ebf23ae26041c911b88869752ebc23", func := "longshore/longshorelaw10.BlockParses", spec := "blockParses", inPlace := ["internal/bytealg.IndexByteString", "internal/bytealg.IndexString"], unfollowed := true, recurses := true, named := ["internal/bytealg.MaxLen", "unicode/utf8.first", "unicode/utf8.acceptRanges"], apart := false, laid := [("unicode/utf8.acceptRanges", laid_unicode_utf8_acceptRanges), ("unicode/utf8.first", laid_unicode_utf8_first)], narrowed := true }
def BlockParsesUptoSaid : Prop := blockParsesUptoRow.holds Tryz.pinned (OpenSpec.upto blockParsesSpec)

/-- 'longshorelaw10.BlockEntries', WHERE WHAT IT READS IS OF BULK AT MOST 1048576: true; the input reads as it did. -/
def blockEntriesUptoRow : OpenClaim := { program := "ytefojkdckfidcaagreatdoor", sum := "b0fbeee64a1c3c46a57e762e7eec159f87ebf23ae26041c911b88869752ebc23", func := "longshore/longshorelaw10.BlockEntries", spec := "blockEntries", inPlace := ["internal/bytealg.IndexByteString", "internal/bytealg.IndexString"], unfollowed := true, recurses := true, named := ["internal/bytealg.MaxLen", "unicode/utf8.first", "unicode/utf8.acceptRanges"], apart := false, laid := [("unicode/utf8.acceptRanges", laid_unicode_utf8_acceptRanges), ("unicode/utf8.first", laid_unicode_utf8_first)], narrowed := true }
def BlockEntriesUptoSaid : Prop := blockEntriesUptoRow.holds Tryz.pinned (OpenSpec.upto blockEntriesSpec)

/-- 'longshorelaw11.EmitWrites', WHERE WHAT IT READS IS OF BULK AT MOST 1048576: true; the input reads as it did. -/
def emitWritesUptoRow : OpenClaim := { program := "ytefojkdckfidcaagreatdoor", sum := "b0fbeee64a1c3c46a57e762e7eec159f87ebf23ae26041c911b88869752ebc23", func := "longshore/longshorelaw11.EmitWrites", spec := "emitWrites", inPlace := ["internal/bytealg.IndexByteString", "internal/bytealg.IndexString", "internal/abi.NoEscape"], unfollowed := true, recurses := true, named := ["internal/bytealg.MaxLen", "unicode/utf8.first", "unicode/utf8.acceptRanges"], loops := true, apart := false, laid := [("unicode/utf8.acceptRanges", laid_unicode_utf8_acceptRanges), ("unicode/utf8.first", laid_unicode_utf8_first)], narrowed := true }
def EmitWritesUptoSaid : Prop := emitWritesUptoRow.holds Tryz.pinned (OpenSpec.upto emitWritesSpec)

/-- 'longshorelaw11.EmitBack', WHERE WHAT IT READS IS OF BULK AT MOST 1048576: true; the input reads as it did. -/
def emitBackUptoRow : OpenClaim := { program := "ytefojkdckfidcaagreatdoor", sum := "b0fbeee64a1c3c46a57e762e7eec159f87ebf23ae26041c911b88869752ebc23", func := "longshore/longshorelaw11.EmitBack", spec := "emitBack", inPlace := ["internal/bytealg.IndexByteString", "internal/bytealg.IndexString", "internal/abi.NoEscape"], unfollowed := true, recurses := true, named := ["internal/bytealg.MaxLen", "unicode/utf8.first", "unicode/utf8.acceptRanges"], loops := true, apart := false, laid := [("unicode/utf8.acceptRanges", laid_unicode_utf8_acceptRanges), ("unicode/utf8.first", laid_unicode_utf8_first)], narrowed := true }
def EmitBackUptoSaid : Prop := emitBackUptoRow.holds Tryz.pinned (OpenSpec.upto emitBackSpec)

/-- 'longshorelaw11.EmitAgain', WHERE WHAT IT READS IS OF BULK AT MOST 1048576: true; the input reads as it did. -/
def emitAgainUptoRow : OpenClaim := { program := "ytefojkdckfidcaagreatdoor", sum := "b0fbeee64a1c3c46a57e762e7eec159f87ebf23ae26041c911b88869752ebc23", func := "longshore/longshorelaw11.EmitAgain", spec := "emitAgain", inPlace := ["internal/bytealg.IndexByteString", "internal/bytealg.IndexString", "internal/abi.NoEscape"], unfollowed := true, recurses := true, named := ["internal/bytealg.MaxLen", "unicode/utf8.first", "unicode/utf8.acceptRanges"], apart := false, laid := [("unicode/utf8.acceptRanges", laid_unicode_utf8_acceptRanges), ("unicode/utf8.first", laid_unicode_utf8_first)], narrowed := true }
def EmitAgainUptoSaid : Prop := emitAgainUptoRow.holds Tryz.pinned (OpenSpec.upto emitAgainSpec)

end Rows
end Go.Proofs.YtefojkdckfidcaaGreatDoor
