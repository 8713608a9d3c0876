/-
  NARROWER THAN 'FOR EVERY INPUT', by the rows' own cells (each row's printed sentence says how): SubstSays: laid · SubstAgree: laid · EnvParses: laid · EnvOver: laid.
  DERIVED. THE GIVEN ROWS OF THIS SEAT. 4 by the template 'for every input the law returns true; each argument reads behind the call as it read before'; 0 by the template 'total and deterministic' (their statements: YtibgdilkodjojaaDoorTotals.lean).
  GIVEN WITH THE SEED: the statements are not yours to turn. If you find one false, say at which input.
  Laid BY PROGRAM, IN A SANDBOX (cutbox-rows.mjs): the forced cells as the released guide's own fill.sh prints them over the translation 754a68eeb7613096… (all of the seat's roots in one cut). By AI agents, Wed Nov 11 2026. No macro, syntax, notation, axiom, sorry.
-/
import Derived.Test.YtibgdilkodjojaaDoorChecked
import GoSem.PinnedTables
import GoSem.Claim
import GoSem.ClaimJoined
import GoSem.ClaimMapViews
import Derived.JoinedTies
import Derived.KernelRfl
namespace Go.Proofs.YtibgdilkodjojaaDoor
/- THE CELL 'sum', in the pinned program and in every row, IS THE sha256 OF THE DUMP (.gsa) THAT YtibgdilkodjojaaDoorProg.lean LOADS. Nothing in Lean hashes anything: it is a label: what it is worth is what the hold of that sum in a sandbox is worth. -/
noncomputable def Tryd.pinned : Pinned := { name := "ytibgdilkodjojaadoor", sum := "754a68eeb761309644fe2f6226059d55c90cedf69acb91400dbe51a975cdf6cf", checked := Tryd.checked }
namespace Rows
def none {H : Type} : Left H := { results := [], args := [] }

/- WHAT THE LISTED PACKAGE-LEVEL VARIABLES READ AS WHEN THE CALL BEGINS. Each datum BY PROGRAM (the guide's laid-datum.mjs) off the statement by which the dump's own 'gosem.cut.vars' lays the variable. In a bare row this is a premise. The card (YtibgdilkodjojaaDoorCards.lean) ties it to the program's text. -/
def laid_unicode_utf8_acceptRanges {H : Type} : DataW H := .agg [.agg [.lit (.int .u8 128), .lit (.int .u8 191)], .agg [.lit (.int .u8 160), .lit (.int .u8 191)], .agg [.lit (.int .u8 128), .lit (.int .u8 159)], .agg [.lit (.int .u8 144), .lit (.int .u8 191)], .agg [.lit (.int .u8 128), .lit (.int .u8 143)], .agg [.lit (.int .u8 0), .lit (.int .u8 0)], .agg [.lit (.int .u8 0), .lit (.int .u8 0)], .agg [.lit (.int .u8 0), .lit (.int .u8 0)], .agg [.lit (.int .u8 0), .lit (.int .u8 0)], .agg [.lit (.int .u8 0), .lit (.int .u8 0)], .agg [.lit (.int .u8 0), .lit (.int .u8 0)], .agg [.lit (.int .u8 0), .lit (.int .u8 0)], .agg [.lit (.int .u8 0), .lit (.int .u8 0)], .agg [.lit (.int .u8 0), .lit (.int .u8 0)], .agg [.lit (.int .u8 0), .lit (.int .u8 0)], .agg [.lit (.int .u8 0), .lit (.int .u8 0)]]
/-- One of Go's own tables, pinned by name: the form's constant. -/
def laid_unicode_utf8_first : DataW Unit := Go.Pinned.utf8First

/-- 'longshorelaw14.SubstSays': WHATEVER THE INPUT: true; the input reads as it did. -/
def substSaysSpec : ChangeSpec := { name := "substSays", fn := fun _ => fun
  | [d1, d2] => { results := [.lit (.bool true)], args := [d1, d2] }
  | _ => none }
def substSaysRow : OpenClaim := { program := "ytibgdilkodjojaadoor", sum := "754a68eeb761309644fe2f6226059d55c90cedf69acb91400dbe51a975cdf6cf", func := "longshore/longshorelaw14.SubstSays", spec := "substSays", inPlace := ["internal/bytealg.CountString", "internal/bytealg.IndexByteString", "internal/bytealg.IndexString", "internal/abi.NoEscape", "internal/bytealg.MakeNoZero"], unfollowed := true, recurses := true, named := ["internal/bytealg.MaxLen", "unicode/utf8.first", "unicode/utf8.acceptRanges"], apart := false, laid := [("unicode/utf8.acceptRanges", laid_unicode_utf8_acceptRanges), ("unicode/utf8.first", laid_unicode_utf8_first)] }
def SubstSaysSaid : Prop := substSaysRow.holds Tryd.pinned (OpenSpec.ofChange substSaysSpec)

/-- ITS FALSE NEIGHBOUR: 'it returns false'. Refute it at one input. -/
def substSaysWrong : ChangeSpec := { name := "substSays", fn := fun _ => fun
  | [d1, d2] => { results := [.lit (.bool false)], args := [d1, d2] }
  | _ => none }
def SubstSaysWrongFalsely : Prop := substSaysRow.holds Tryd.pinned (OpenSpec.ofChange substSaysWrong)

/-- 'longshorelaw14.SubstAgree': WHATEVER THE INPUT: true; the input reads as it did. -/
def substAgreeSpec : ChangeSpec := { name := "substAgree", fn := fun _ => fun
  | [d1, d2, d3, d4] => { results := [.lit (.bool true)], args := [d1, d2, d3, d4] }
  | _ => none }
def substAgreeRow : OpenClaim := { program := "ytibgdilkodjojaadoor", sum := "754a68eeb761309644fe2f6226059d55c90cedf69acb91400dbe51a975cdf6cf", func := "longshore/longshorelaw14.SubstAgree", spec := "substAgree", inPlace := ["internal/bytealg.CountString", "internal/bytealg.IndexByteString", "internal/bytealg.IndexString", "internal/abi.NoEscape", "internal/bytealg.MakeNoZero"], unfollowed := true, recurses := true, named := ["internal/bytealg.MaxLen", "unicode/utf8.first", "unicode/utf8.acceptRanges"], apart := false, laid := [("unicode/utf8.acceptRanges", laid_unicode_utf8_acceptRanges), ("unicode/utf8.first", laid_unicode_utf8_first)] }
def SubstAgreeSaid : Prop := substAgreeRow.holds Tryd.pinned (OpenSpec.ofChange substAgreeSpec)

/-- ITS FALSE NEIGHBOUR: 'it returns false'. Refute it at one input. -/
def substAgreeWrong : ChangeSpec := { name := "substAgree", fn := fun _ => fun
  | [d1, d2, d3, d4] => { results := [.lit (.bool false)], args := [d1, d2, d3, d4] }
  | _ => none }
def SubstAgreeWrongFalsely : Prop := substAgreeRow.holds Tryd.pinned (OpenSpec.ofChange substAgreeWrong)

/-- 'longshorelaw12.EnvParses': WHATEVER THE INPUT: true; the input reads as it did. -/
def envParsesSpec : ChangeSpec := { name := "envParses", fn := fun _ => fun
  | [d] => { results := [.lit (.bool true)], args := [d] }
  | _ => none }
def envParsesRow : OpenClaim := { program := "ytibgdilkodjojaadoor", sum := "754a68eeb761309644fe2f6226059d55c90cedf69acb91400dbe51a975cdf6cf", func := "longshore/longshorelaw12.EnvParses", spec := "envParses", inPlace := ["internal/bytealg.IndexByteString", "internal/bytealg.IndexString"], unfollowed := true, recurses := true, named := ["internal/bytealg.MaxLen", "unicode/utf8.first", "unicode/utf8.acceptRanges"], apart := false, laid := [("unicode/utf8.acceptRanges", laid_unicode_utf8_acceptRanges), ("unicode/utf8.first", laid_unicode_utf8_first)] }
def EnvParsesSaid : Prop := envParsesRow.holds Tryd.pinned (OpenSpec.ofChange envParsesSpec)

/-- ITS FALSE NEIGHBOUR: 'it returns false'. Refute it at one input. -/
def envParsesWrong : ChangeSpec := { name := "envParses", fn := fun _ => fun
  | [d] => { results := [.lit (.bool false)], args := [d] }
  | _ => none }
def EnvParsesWrongFalsely : Prop := envParsesRow.holds Tryd.pinned (OpenSpec.ofChange envParsesWrong)

/-- 'longshorelaw12.EnvOver': WHATEVER THE INPUT: true; the input reads as it did. -/
def envOverSpec : ChangeSpec := { name := "envOver", fn := fun _ => fun
  | [d1, d2, d3] => { results := [.lit (.bool true)], args := [d1, d2, d3] }
  | _ => none }
def envOverRow : OpenClaim := { program := "ytibgdilkodjojaadoor", sum := "754a68eeb761309644fe2f6226059d55c90cedf69acb91400dbe51a975cdf6cf", func := "longshore/longshorelaw12.EnvOver", spec := "envOver", inPlace := ["internal/bytealg.IndexByteString", "internal/bytealg.IndexString", "internal/abi.NoEscape"], unfollowed := true, recurses := true, named := ["internal/bytealg.MaxLen", "unicode/utf8.first", "unicode/utf8.acceptRanges"], apart := false, laid := [("unicode/utf8.acceptRanges", laid_unicode_utf8_acceptRanges), ("unicode/utf8.first", laid_unicode_utf8_first)] }
def EnvOverSaid : Prop := envOverRow.holds Tryd.pinned (OpenSpec.ofChange envOverSpec)

/-- ITS FALSE NEIGHBOUR: 'it returns false'. Refute it at one input. -/
def envOverWrong : ChangeSpec := { name := "envOver", fn := fun _ => fun
  | [d1, d2, d3] => { results := [.lit (.bool false)], args := [d1, d2, d3] }
  | _ => none }
def EnvOverWrongFalsely : Prop := envOverRow.holds Tryd.pinned (OpenSpec.ofChange envOverWrong)

/- THE SECOND FORM. 'bulk': how many values and letters a reading holds, each counted each time it is reached (what is shared counts as often as it is met; a slice's spare places count too). A statement '..UptoSaid' is the law's where the arguments, and the package variables that the reading takes, are together of bulk at most 1048576: NARROWER than '..Said'. Prove '..Said' where nothing that the law and all that it calls make is longer than what came in: it says more and counts as full. Else prove '..UptoSaid'. A law counts once. -/
mutual
def uptoBulk {H : Type} : DataW H → Nat
  | .lit (.string bytes) => bytes.length + 1
  | .lit _ => 1
  | .nil => 1
  | .ptr d => uptoBulk d + 1
  | .slice elems spare => uptoBulkAll elems + uptoBulkAll spare + 1
  | .agg parts => uptoBulkAll parts + 1
  | .iface _ d => uptoBulk d + 1
  | .map entries => uptoBulkEntries entries + 1
  | .held _ => 1
def uptoBulkAll {H : Type} : List (DataW H) → Nat
  | [] => 0
  | d :: r => uptoBulk d + uptoBulkAll r
def uptoBulkEntries {H : Type} : List (Lit × DataW H) → Nat
  | [] => 0
  | x :: r => uptoBulkEntry x + uptoBulkEntries r
def uptoBulkEntry {H : Type} : Lit × DataW H → Nat
  | (.string bytes, d) => bytes.length + uptoBulk d + 1
  | (_, d) => uptoBulk d + 1
 end
def uptoSmall : (H : Type) → List (DataW H) → Bool := fun _ ds => decide (uptoBulkAll ds ≤ 1048576)
def OpenSpec.upto (s : _root_.Go.ChangeSpec) : _root_.Go.OpenSpec := { _root_.Go.OpenSpec.ofChange s with cond := some uptoSmall }

/-- 'longshorelaw14.SubstSays', WHERE WHAT IT READS IS OF BULK AT MOST 1048576: true; the input reads as it did. -/
def substSaysUptoRow : OpenClaim := { program := "ytibgdilkodjojaadoor", sum := "754a68eeb761309644fe2f6226059d55c90cedf69acb91400dbe51a975cdf6cf", func := "longshore/longshorelaw14.SubstSays", spec := "substSays", inPlace := ["internal/bytealg.CountString", "internal/bytealg.IndexByteString", "internal/bytealg.IndexString", "internal/abi.NoEscape", "internal/bytealg.MakeNoZero"], unfollowed := true, recurses := true, named := ["internal/bytealg.MaxLen", "unicode/utf8.first", "unicode/utf8.acceptRanges"], apart := false, laid := [("unicode/utf8.acceptRanges", laid_unicode_utf8_acceptRanges), ("unicode/utf8.first", laid_unicode_utf8_first)], narrowed := true }
def SubstSaysUptoSaid : Prop := substSaysUptoRow.holds Tryd.pinned (OpenSpec.upto substSaysSpec)

/-- 'longshorelaw14.SubstAgree', WHERE WHAT IT READS IS OF BULK AT MOST 1048576: true; the input reads as it did. -/
def substAgreeUptoRow : OpenClaim := { program := "ytibgdilkodjojaadoor", sum := "754a68eeb761309644fe2f6226059d55c90cedf69acb91400dbe51a975cdf6cf", func := "longshore/longshorelaw14.SubstAgree", spec := "substAgree", inPlace := ["internal/bytealg.CountString", "internal/bytealg.IndexByteString", "internal/bytealg.IndexString", "internal/abi.NoEscape", "internal/bytealg.MakeNoZero"], unfollowed := true, recurses := true, named := ["internal/bytealg.MaxLen", "unicode/utf8.first", "unicode/utf8.acceptRanges"], apart := false, laid := [("unicode/utf8.acceptRanges", laid_unicode_utf8_acceptRanges), ("unicode/utf8.first", laid_unicode_utf8_first)], narrowed := true }
def SubstAgreeUptoSaid : Prop := substAgreeUptoRow.holds Tryd.pinned (OpenSpec.upto substAgreeSpec)

/-- 'longshorelaw12.EnvParses', WHERE WHAT IT READS IS OF BULK AT MOST 1048576: true; the input reads as it did. -/
def envParsesUptoRow : OpenClaim := { program := "ytibgdilkodjojaadoor", sum := "754a68eeb761309644fe2f6226059d55c90cedf69acb91400dbe51a975cdf6cf", func := "longshore/longshorelaw12.EnvParses", spec := "envParses", inPlace := ["internal/bytealg.IndexByteString", "internal/bytealg.IndexString"], unfollowed := true, recurses := true, named := ["internal/bytealg.MaxLen", "unicode/utf8.first", "unicode/utf8.acceptRanges"], apart := false, laid := [("unicode/utf8.acceptRanges", laid_unicode_utf8_acceptRanges), ("unicode/utf8.first", laid_unicode_utf8_first)], narrowed := true }
def EnvParsesUptoSaid : Prop := envParsesUptoRow.holds Tryd.pinned (OpenSpec.upto envParsesSpec)

/-- 'longshorelaw12.EnvOver', WHERE WHAT IT READS IS OF BULK AT MOST 1048576: true; the input reads as it did. -/
def envOverUptoRow : OpenClaim := { program := "ytibgdilkodjojaadoor", sum := "754a68eeb761309644fe2f6226059d55c90cedf69acb91400dbe51a975cdf6cf", func := "longshore/longshorelaw12.EnvOver", spec := "envOver", inPlace := ["internal/bytealg.IndexByteString", "internal/bytealg.IndexString", "internal/abi.NoEscape"], unfollowed := true, recurses := true, named := ["internal/bytealg.MaxLen", "unicode/utf8.first", "unicode/utf8.acceptRanges"], apart := false, laid := [("unicode/utf8.acceptRanges", laid_unicode_utf8_acceptRanges), ("unicode/utf8.first", laid_unicode_utf8_first)], narrowed := true }
def EnvOverUptoSaid : Prop := envOverUptoRow.holds Tryd.pinned (OpenSpec.upto envOverSpec)

end Rows
end Go.Proofs.YtibgdilkodjojaaDoor
