import Derived.Test.YtibgdilkodjojaaGreatDoorQRxGen
import Derived.WalkSmall
import Derived.Lib.Bytealg
import Derived.Lib.IndexMore
import Derived.Lib.SplitLaws
import Derived.Lib.Join
import Derived.Lib.Repeat
import Derived.Lib.Replace
import Derived.Lib.TrimByte
set_option linter.all false
namespace Go.Proofs.YtibgdilkodjojaaGreatDoor.RX
open Go.RowKit
section
variable {P:Program} {F:Fz} {w:World} {B:Env}
theorem args1 {a:List UInt8} {args:List Value} (h:RepL F w B [.str a] args):args = [.string ⟨a.toArray⟩]:=by
 cases h with
 | cons _ v _ vs h1 h2=>cases h2; cases h1; rfl
theorem args2 {a b:List UInt8} {args:List Value} (h:RepL F w B [.str a,.str b] args):args = [.string ⟨a.toArray⟩,.string ⟨b.toArray⟩]:=by
 cases h with
 | cons _ v _ vs h1 h2=>cases h1; rw [args1 h2]
theorem args3 {a b c:List UInt8} {args:List Value} (h:RepL F w B [.str a,.str b,.str c] args):args = [.string ⟨a.toArray⟩,.string ⟨b.toArray⟩,.string ⟨c.toArray⟩]:=by
 cases h with
 | cons _ v _ vs h1 h2=>cases h1; rw [args2 h2]
theorem sizeL (l:List UInt8):(⟨l.toArray⟩:ByteArray).size = l.length:=List.size_toArray
theorem pureX {f:Nat} {ds:List D} {r:D} (hf:FOK P f) (h:∀ (F:Fz) (w:World) (args:List Value),Shp P w → RepL F w NB ds args → Calls P f args.toArray w fun e w'=>∃ v,e = .returned v ∧ (∀ F' w'',Rep F' w'' NB r v) ∧ Below w.heap.size w w'):CallsX P f ds r :=
 ⟨hf,fun F w args hs _ hr=>(h F w args hs hr).mono fun _ _ ⟨v,he,hv,hb⟩=>⟨v,he,hv _ _,hb⟩⟩
theorem shp_int {g:Nat} (hg:g < P.low) (hs:∀ w:World,w.ShapedOpen P → ∃ m,w.cell? ⟨g,0,none⟩ = some (.int .i64 m)) (h:Shp P w):∃ m,w.cell? ⟨g,0,none⟩ = some (.int .i64 m):=by
 obtain ⟨w0,h0,_,h1⟩:=h
 obtain ⟨m,hm⟩:=hs w0 h0
 exact ⟨m,(World.cell?_of_block (h1 g hg)).trans hm⟩
theorem low_gt {g:Nat} (h:Nat.ble g P.globals.size = true):g < P.low:=by
 have:P.low = P.globals.size + 5:=by simp [Program.low,begin]
 have:=Nat.le_of_ble_eq_true h
 omega
variable {f:Nat} {a b c:List UInt8}
theorem lib_hasPrefix (hf:FOK P f) (hc:∀ (s p:ByteArray) (w:World),Calls P f #[.string s,.string p] w fun e w'=>e = .returned (.bool (Lib.hasPrefix s.data.toList p.data.toList)) ∧ w' = w):CallsX P f [.str a,.str b] (.val (.bool (Lib.hasPrefix a b))):=by
 refine pureX hf fun F w args _ hr=>?_
 rw [args2 hr]
 refine (hc ⟨a.toArray⟩ ⟨b.toArray⟩ w).mono ?_
 rintro e w' ⟨rfl,rfl⟩
 exact ⟨_,rfl,fun F' w''=>.val _ rfl,Below.refl _ _⟩
theorem lib_replaceAll {g:Nat} (hf:FOK P f) (hg:g < P.low) (hs:∀ w:World,w.ShapedOpen P → ∃ m,w.cell? ⟨g,0,none⟩ = some (.int .i64 m))
  (hc:∀ (s old new:ByteArray) (m:Int) (w:World),s.size < 4294967281 → w.cell? ⟨g,0,none⟩ = some (.int .i64 m) → 1 ≤ old.size → s.size + Lib.countB s old * new.size ≤ 140737488355328 → Calls P f #[.string s,.string old,.string new] w fun e w'=>e = .returned (.string ⟨(Lib.replaceAll s.data.toList old.data.toList new.data.toList).toArray⟩) ∧ Below w.heap.size w w')
  (h:decide (a.length < 4294967281 ∧ 1 ≤ b.length ∧ a.length + Lib.countB ⟨a.toArray⟩ ⟨b.toArray⟩ * c.length ≤ limit) = true):CallsX P f [.str a,.str b,.str c] (.str (Lib.replaceAll a b c)):=by
 refine pureX hf fun F w args hsh hr=>?_
 rw [args3 hr]
 obtain ⟨h1,h2,h3⟩:=of_decide_eq_true h
 obtain ⟨m,hm⟩:=shp_int hg hs hsh
 refine (hc ⟨a.toArray⟩ ⟨b.toArray⟩ ⟨c.toArray⟩ m w (by rw [sizeL]; exact h1) hm (by rw [sizeL]; exact h2) (by rw [sizeL,sizeL]; exact h3)).mono ?_
 rintro e w' ⟨rfl,hb⟩
 exact ⟨_,rfl,fun F' w''=>.str _,hb⟩
end
end Go.Proofs.YtibgdilkodjojaaGreatDoor.RX
