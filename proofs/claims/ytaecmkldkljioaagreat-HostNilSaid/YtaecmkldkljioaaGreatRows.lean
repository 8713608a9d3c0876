/-
  No cell of these rows narrows 'for every input' (looked for: loops, veiled, ifaces, maps, wideKeys, modest, calm, conditions, laid).
  DERIVED. THE GIVEN ROWS OF THIS SEAT. 6 by the template 'for every input the law returns true; each argument reads behind the call as it read before'; 0 by the template 'total and deterministic' (their statements: YtaecmkldkljioaaGreatTotals.lean).
  GIVEN WITH THE SEED: the statements are not yours to turn. If you find one false, say at which input.
  Laid BY PROGRAM, IN A SANDBOX (cutbox-rows.mjs): the forced cells as the released guide's own fill.sh prints them over the translation f1f585d6f460af0e… (all of the seat's roots in one cut). By AI agents, Wed Nov 11 2026. No macro, syntax, notation, axiom, sorry.
-/
import Derived.Test.YtaecmkldkljioaaGreatChecked
import GoSem.Claim
import GoSem.ClaimJoined
import GoSem.ClaimMapViews
import Derived.JoinedTies
import Derived.KernelRfl
namespace Go.Proofs.YtaecmkldkljioaaGreat
/- THE CELL 'sum', in the pinned program and in every row, IS THE sha256 OF THE DUMP (.gsa) THAT YtaecmkldkljioaaGreatProg.lean LOADS. Nothing in Lean hashes anything: it is a label: what it is worth is what the hold of that sum in a sandbox is worth. -/
noncomputable def Tryz.pinned : Pinned := { name := "ytaecmkldkljioaagreat", sum := "f1f585d6f460af0e813bb240f86022f913b990074c691fc7c82bea8ba2aface7", checked := Tryz.checked }
namespace Rows
def none {H : Type} : Left H := { results := [], args := [] }

/-- 'longshorelaw33.StorePlays': WHATEVER THE INPUT: true; the input reads as it did. -/
def storePlaysSpec : ChangeSpec := { name := "storePlays", fn := fun _ => fun
  | [d1, d2] => { results := [.lit (.bool true)], args := [d1, d2] }
  | _ => none }
def storePlaysRow : OpenClaim := { program := "ytaecmkldkljioaagreat", sum := "f1f585d6f460af0e813bb240f86022f913b990074c691fc7c82bea8ba2aface7", func := "longshore/longshorelaw33.StorePlays", spec := "storePlays", unfollowed := true, recurses := true, apart := false }
def StorePlaysSaid : Prop := storePlaysRow.holds Tryz.pinned (OpenSpec.ofChange storePlaysSpec)

/-- ITS FALSE NEIGHBOUR: 'it returns false'. Refute it at one input. -/
def storePlaysWrong : ChangeSpec := { name := "storePlays", fn := fun _ => fun
  | [d1, d2] => { results := [.lit (.bool false)], args := [d1, d2] }
  | _ => none }
def StorePlaysWrongFalsely : Prop := storePlaysRow.holds Tryz.pinned (OpenSpec.ofChange storePlaysWrong)

/-- 'longshorelaw35.HostFails': WHATEVER THE INPUT: true; the input reads as it did. -/
def hostFailsSpec : ChangeSpec := { name := "hostFails", fn := fun _ => fun
  | [d1, d2] => { results := [.lit (.bool true)], args := [d1, d2] }
  | _ => none }
def hostFailsRow : OpenClaim := { program := "ytaecmkldkljioaagreat", sum := "f1f585d6f460af0e813bb240f86022f913b990074c691fc7c82bea8ba2aface7", func := "longshore/longshorelaw35.HostFails", spec := "hostFails", unfollowed := true, recurses := true, apart := false }
def HostFailsSaid : Prop := hostFailsRow.holds Tryz.pinned (OpenSpec.ofChange hostFailsSpec)

/-- ITS FALSE NEIGHBOUR: 'it returns false'. Refute it at one input. -/
def hostFailsWrong : ChangeSpec := { name := "hostFails", fn := fun _ => fun
  | [d1, d2] => { results := [.lit (.bool false)], args := [d1, d2] }
  | _ => none }
def HostFailsWrongFalsely : Prop := hostFailsRow.holds Tryz.pinned (OpenSpec.ofChange hostFailsWrong)

/-- 'longshorelaw35.HostParts': WHATEVER THE INPUT: true; the input reads as it did. -/
def hostPartsSpec : ChangeSpec := { name := "hostParts", fn := fun _ => fun
  | [d1, d2, d3, d4] => { results := [.lit (.bool true)], args := [d1, d2, d3, d4] }
  | _ => none }
def hostPartsRow : OpenClaim := { program := "ytaecmkldkljioaagreat", sum := "f1f585d6f460af0e813bb240f86022f913b990074c691fc7c82bea8ba2aface7", func := "longshore/longshorelaw35.HostParts", spec := "hostParts", unfollowed := true, recurses := true, apart := false }
def HostPartsSaid : Prop := hostPartsRow.holds Tryz.pinned (OpenSpec.ofChange hostPartsSpec)

/-- ITS FALSE NEIGHBOUR: 'it returns false'. Refute it at one input. -/
def hostPartsWrong : ChangeSpec := { name := "hostParts", fn := fun _ => fun
  | [d1, d2, d3, d4] => { results := [.lit (.bool false)], args := [d1, d2, d3, d4] }
  | _ => none }
def HostPartsWrongFalsely : Prop := hostPartsRow.holds Tryz.pinned (OpenSpec.ofChange hostPartsWrong)

/-- 'longshorelaw35.HostPlays': WHATEVER THE INPUT: true; the input reads as it did. -/
def hostPlaysSpec : ChangeSpec := { name := "hostPlays", fn := fun _ => fun
  | [d1, d2] => { results := [.lit (.bool true)], args := [d1, d2] }
  | _ => none }
def hostPlaysRow : OpenClaim := { program := "ytaecmkldkljioaagreat", sum := "f1f585d6f460af0e813bb240f86022f913b990074c691fc7c82bea8ba2aface7", func := "longshore/longshorelaw35.HostPlays", spec := "hostPlays", unfollowed := true, recurses := true, apart := false }
def HostPlaysSaid : Prop := hostPlaysRow.holds Tryz.pinned (OpenSpec.ofChange hostPlaysSpec)

/-- ITS FALSE NEIGHBOUR: 'it returns false'. Refute it at one input. -/
def hostPlaysWrong : ChangeSpec := { name := "hostPlays", fn := fun _ => fun
  | [d1, d2] => { results := [.lit (.bool false)], args := [d1, d2] }
  | _ => none }
def HostPlaysWrongFalsely : Prop := hostPlaysRow.holds Tryz.pinned (OpenSpec.ofChange hostPlaysWrong)

/-- 'longshorelaw35.HostNil': WHATEVER THE INPUT: true; the input reads as it did. -/
def hostNilSpec : ChangeSpec := { name := "hostNil", fn := fun _ => fun
  | [d] => { results := [.lit (.bool true)], args := [d] }
  | _ => none }
def hostNilRow : OpenClaim := { program := "ytaecmkldkljioaagreat", sum := "f1f585d6f460af0e813bb240f86022f913b990074c691fc7c82bea8ba2aface7", func := "longshore/longshorelaw35.HostNil", spec := "hostNil", unfollowed := true, recurses := true, apart := false }
def HostNilSaid : Prop := hostNilRow.holds Tryz.pinned (OpenSpec.ofChange hostNilSpec)

/-- ITS FALSE NEIGHBOUR: 'it returns false'. Refute it at one input. -/
def hostNilWrong : ChangeSpec := { name := "hostNil", fn := fun _ => fun
  | [d] => { results := [.lit (.bool false)], args := [d] }
  | _ => none }
def HostNilWrongFalsely : Prop := hostNilRow.holds Tryz.pinned (OpenSpec.ofChange hostNilWrong)

/-- 'longshorelaw36.ViewHosts': WHATEVER THE INPUT: true; the input reads as it did. -/
def viewHostsSpec : ChangeSpec := { name := "viewHosts", fn := fun _ => fun
  | [d] => { results := [.lit (.bool true)], args := [d] }
  | _ => none }
def viewHostsRow : OpenClaim := { program := "ytaecmkldkljioaagreat", sum := "f1f585d6f460af0e813bb240f86022f913b990074c691fc7c82bea8ba2aface7", func := "longshore/longshorelaw36.ViewHosts", spec := "viewHosts", unfollowed := true, recurses := true, apart := false }
def ViewHostsSaid : Prop := viewHostsRow.holds Tryz.pinned (OpenSpec.ofChange viewHostsSpec)

/-- ITS FALSE NEIGHBOUR: 'it returns false'. Refute it at one input. -/
def viewHostsWrong : ChangeSpec := { name := "viewHosts", fn := fun _ => fun
  | [d] => { results := [.lit (.bool false)], args := [d] }
  | _ => none }
def ViewHostsWrongFalsely : Prop := viewHostsRow.holds Tryz.pinned (OpenSpec.ofChange viewHostsWrong)

/- THE SECOND FORM. 'bulk': how many values and letters a reading holds, each counted each time it is reached (what is shared counts as often as it is met; a slice's spare places count too). A statement '..UptoSaid' is the law's where the arguments, and the package variables that the reading takes, are together of bulk at most 1048576: NARROWER than '..Said'. Prove '..Said' where nothing that the law and all that it calls make is longer than what came in: it says more and counts as full. Else prove '..UptoSaid'. A law counts once. -/
mutual
def uptoBulk {H : Type} : DataW H → Nat
  | .lit (.string bytes) => bytes.length + 1
  | .lit _ => 1
  | .nil => 1
  | .ptr d => uptoBulk d + 1
  | .slice elems spare => uptoBulkAll elems + uptoBulkAll spare + 1
  | .agg parts => uptoBulkAll parts + 1
  | .iface _ d => uptoBulk d + 1
  | .map entries => uptoBulkEntries entries + 1
  | .held _ => 1
def uptoBulkAll {H : Type} : List (DataW H) → Nat
  | [] => 0
  | d :: r => uptoBulk d + uptoBulkAll r
def uptoBulkEntries {H : Type} : List (Lit × DataW H) → Nat
  | [] => 0
  | x :: r => uptoBulkEntry x + uptoBulkEntries r
def uptoBulkEntry {H : Type} : Lit × DataW H → Nat
  | (.string bytes, d) => bytes.length + uptoBulk d + 1
  | (_, d) => uptoBulk d + 1
 end
def uptoSmall : (H : Type) → List (DataW H) → Bool := fun _ ds => decide (uptoBulkAll ds ≤ 1048576)
def OpenSpec.upto (s : _root_.Go.ChangeSpec) : _root_.Go.OpenSpec := { _root_.Go.OpenSpec.ofChange s with cond := some uptoSmall }

/-- 'longshorelaw33.StorePlays', WHERE WHAT IT READS IS OF BULK AT MOST 1048576: true; the input reads as it did. -/
def storePlaysUptoRow : OpenClaim := { program := "ytaecmkldkljioaagreat", sum := "f1f585d6f460af0e813bb240f86022f913b990074c691fc7c82bea8ba2aface7", func := "longshore/longshorelaw33.StorePlays", spec := "storePlays", unfollowed := true, recurses := true, apart := false, narrowed := true }
def StorePlaysUptoSaid : Prop := storePlaysUptoRow.holds Tryz.pinned (OpenSpec.upto storePlaysSpec)

/-- 'longshorelaw35.HostFails', WHERE WHAT IT READS IS OF BULK AT MOST 1048576: true; the input reads as it did. -/
def hostFailsUptoRow : OpenClaim := { program := "ytaecmkldkljioaagreat", sum := "f1f585d6f460af0e813bb240f86022f913b990074c691fc7c82bea8ba2aface7", func := "longshore/longshorelaw35.HostFails", spec := "hostFails", unfollowed := true, recurses := true, apart := false, narrowed := true }
def HostFailsUptoSaid : Prop := hostFailsUptoRow.holds Tryz.pinned (OpenSpec.upto hostFailsSpec)

/-- 'longshorelaw35.HostParts', WHERE WHAT IT READS IS OF BULK AT MOST 1048576: true; the input reads as it did. -/
def hostPartsUptoRow : OpenClaim := { program := "ytaecmkldkljioaagreat", sum := "f1f585d6f460af0e813bb240f86022f913b990074c691fc7c82bea8ba2aface7", func := "longshore/longshorelaw35.HostParts", spec := "hostParts", unfollowed := true, recurses := true, apart := false, narrowed := true }
def HostPartsUptoSaid : Prop := hostPartsUptoRow.holds Tryz.pinned (OpenSpec.upto hostPartsSpec)

/-- 'longshorelaw35.HostPlays', WHERE WHAT IT READS IS OF BULK AT MOST 1048576: true; the input reads as it did. -/
def hostPlaysUptoRow : OpenClaim := { program := "ytaecmkldkljioaagreat", sum := "f1f585d6f460af0e813bb240f86022f913b990074c691fc7c82bea8ba2aface7", func := "longshore/longshorelaw35.HostPlays", spec := "hostPlays", unfollowed := true, recurses := true, apart := false, narrowed := true }
def HostPlaysUptoSaid : Prop := hostPlaysUptoRow.holds Tryz.pinned (OpenSpec.upto hostPlaysSpec)

/-- 'longshorelaw35.HostNil', WHERE WHAT IT READS IS OF BULK AT MOST 1048576: true; the input reads as it did. -/
def hostNilUptoRow : OpenClaim := { program := "ytaecmkldkljioaagreat", sum := "f1f585d6f460af0e813bb240f86022f913b990074c691fc7c82bea8ba2aface7", func := "longshore/longshorelaw35.HostNil", spec := "hostNil", unfollowed := true, recurses := true, apart := false, narrowed := true }
def HostNilUptoSaid : Prop := hostNilUptoRow.holds Tryz.pinned (OpenSpec.upto hostNilSpec)

/-- 'longshorelaw36.ViewHosts', WHERE WHAT IT READS IS OF BULK AT MOST 1048576: true; the input reads as it did. -/
def viewHostsUptoRow : OpenClaim := { program := "ytaecmkldkljioaagreat", sum := "f1f585d6f460af0e813bb240f86022f913b990074c691fc7c82bea8ba2aface7", func := "longshore/longshorelaw36.ViewHosts", spec := "viewHosts", unfollowed := true, recurses := true, apart := false, narrowed := true }
def ViewHostsUptoSaid : Prop := viewHostsUptoRow.holds Tryz.pinned (OpenSpec.upto viewHostsSpec)

end Rows
end Go.Proofs.YtaecmkldkljioaaGreat
