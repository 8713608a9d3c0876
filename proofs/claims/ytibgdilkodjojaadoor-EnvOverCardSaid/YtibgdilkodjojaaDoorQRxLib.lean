import Derived.Test.YtibgdilkodjojaaDoorQRxGen
import Derived.WalkSmall
import Derived.Lib.Bytealg
import Derived.Lib.IndexMore
import Derived.Lib.SplitLaws
import Derived.Lib.Join
import Derived.Lib.Repeat
import Derived.Lib.Replace
import Derived.Lib.TrimByte
set_option linter.all false
namespace Go.Proofs.YtibgdilkodjojaaDoor.RX
open Go.RowKit
section
variable {P:Program} {F:Fz} {w:World} {B:Env}
theorem args1 {a:List UInt8} {args:List Value} (h:RepL F w B [.str a] args):args = [.string ⟨a.toArray⟩]:=by
 cases h with
 | cons _ v _ vs h1 h2=>cases h2; cases h1; rfl
theorem args2 {a b:List UInt8} {args:List Value} (h:RepL F w B [.str a,.str b] args):args = [.string ⟨a.toArray⟩,.string ⟨b.toArray⟩]:=by
 cases h with
 | cons _ v _ vs h1 h2=>cases h1; rw [args1 h2]
theorem sizeL (l:List UInt8):(⟨l.toArray⟩:ByteArray).size = l.length:=List.size_toArray
theorem pureX {f:Nat} {ds:List D} {r:D} (hf:FOK P f) (h:∀ (F:Fz) (w:World) (args:List Value),Shp P w → RepL F w NB ds args → Calls P f args.toArray w fun e w'=>∃ v,e = .returned v ∧ (∀ F' w'',Rep F' w'' NB r v) ∧ Below w.heap.size w w'):CallsX P f ds r :=
 ⟨hf,fun F w args hs _ hr=>(h F w args hs hr).mono fun _ _ ⟨v,he,hv,hb⟩=>⟨v,he,hv _ _,hb⟩⟩
theorem shp_int {g:Nat} (hg:g < P.low) (hs:∀ w:World,w.ShapedOpen P → ∃ m,w.cell? ⟨g,0,none⟩ = some (.int .i64 m)) (h:Shp P w):∃ m,w.cell? ⟨g,0,none⟩ = some (.int .i64 m):=by
 obtain ⟨w0,h0,_,h1⟩:=h
 obtain ⟨m,hm⟩:=hs w0 h0
 exact ⟨m,(World.cell?_of_block (h1 g hg)).trans hm⟩
theorem low_gt {g:Nat} (h:Nat.ble g P.globals.size = true):g < P.low:=by
 have:P.low = P.globals.size + 5:=by simp [Program.low,begin]
 have:=Nat.le_of_ble_eq_true h
 omega
variable {f:Nat} {a b c:List UInt8}
theorem lib_cut {g:Nat} (hf:FOK P f) (hg:g < P.low) (hs:∀ w:World,w.ShapedOpen P → ∃ m,w.cell? ⟨g,0,none⟩ = some (.int .i64 m))
  (hc:∀ (s sep:ByteArray) (m:Int) (w:World),s.size < 4294967281 → w.cell? ⟨g,0,none⟩ = some (.int .i64 m) → Calls P f #[.string s,.string sep] w fun e w'=>e = .returned (.tuple #[.string ⟨(Lib.cut s.data.toList sep.data.toList).1.toArray⟩,.string ⟨(Lib.cut s.data.toList sep.data.toList).2.1.toArray⟩,.bool (Lib.cut s.data.toList sep.data.toList).2.2]) ∧ ∃ n,w' = w.drewN n)
  (ha:decide (a.length < 4294967281) = true):CallsX P f [.str a,.str b] (.tup [.str (Lib.cut a b).1,.str (Lib.cut a b).2.1,.val (.bool (Lib.cut a b).2.2)]):=by
 refine pureX hf fun F w args hsh hr=>?_
 rw [args2 hr]
 obtain ⟨m,hm⟩:=shp_int hg hs hsh
 refine (hc ⟨a.toArray⟩ ⟨b.toArray⟩ m w (by rw [sizeL]; exact of_decide_eq_true ha) hm).mono ?_
 rintro e w' ⟨rfl,n,rfl⟩
 exact ⟨_,rfl,fun F' w''=>.tup _ [.string ⟨(Lib.cut a b).1.toArray⟩,.string ⟨(Lib.cut a b).2.1.toArray⟩,.bool (Lib.cut a b).2.2] (.cons _ _ _ _ (.str _) (.cons _ _ _ _ (.str _) (.cons _ _ _ _ (.val _ rfl) .nil))),below_drewN (Below.refl _ _) n⟩
theorem lib_index {g:Nat} (hf:FOK P f) (hg:g < P.low) (hs:∀ w:World,w.ShapedOpen P → ∃ m,w.cell? ⟨g,0,none⟩ = some (.int .i64 m))
  (hc:∀ (s sub:ByteArray) (m:Int) (w:World),s.size < 4294967281 → w.cell? ⟨g,0,none⟩ = some (.int .i64 m) → Calls P f #[.string s,.string sub] w fun e w'=>e = .returned (.int .i64 (Lib.index s.data.toList sub.data.toList)) ∧ w' = w)
  (ha:decide (a.length < 4294967281) = true):CallsX P f [.str a,.str b] (.val (.int .i64 (Lib.index a b))):=by
 refine pureX hf fun F w args hsh hr=>?_
 rw [args2 hr]
 obtain ⟨m,hm⟩:=shp_int hg hs hsh
 refine (hc ⟨a.toArray⟩ ⟨b.toArray⟩ m w (by rw [sizeL]; exact of_decide_eq_true ha) hm).mono ?_
 rintro e w' ⟨rfl,rfl⟩
 exact ⟨_,rfl,fun F' w''=>.val _ rfl,Below.refl _ _⟩
theorem lib_hasPrefix (hf:FOK P f) (hc:∀ (s p:ByteArray) (w:World),Calls P f #[.string s,.string p] w fun e w'=>e = .returned (.bool (Lib.hasPrefix s.data.toList p.data.toList)) ∧ w' = w):CallsX P f [.str a,.str b] (.val (.bool (Lib.hasPrefix a b))):=by
 refine pureX hf fun F w args _ hr=>?_
 rw [args2 hr]
 refine (hc ⟨a.toArray⟩ ⟨b.toArray⟩ w).mono ?_
 rintro e w' ⟨rfl,rfl⟩
 exact ⟨_,rfl,fun F' w''=>.val _ rfl,Below.refl _ _⟩
theorem lib_cutPrefix (hf:FOK P f) (hc:∀ (s p:ByteArray) (w:World),Calls P f #[.string s,.string p] w fun e w'=>e = .returned (.tuple #[.string ⟨(Lib.trimPrefix s.data.toList p.data.toList).toArray⟩,.bool (Lib.hasPrefix s.data.toList p.data.toList)]) ∧ w' = w):CallsX P f [.str a,.str b] (.tup [.str (Lib.trimPrefix a b),.val (.bool (Lib.hasPrefix a b))]):=by
 refine pureX hf fun F w args _ hr=>?_
 rw [args2 hr]
 refine (hc ⟨a.toArray⟩ ⟨b.toArray⟩ w).mono ?_
 rintro e w' ⟨rfl,rfl⟩
 exact ⟨_,rfl,fun F' w''=>.tup _ [.string ⟨(Lib.trimPrefix a b).toArray⟩,.bool (Lib.hasPrefix a b)] (.cons _ _ _ _ (.str _) (.cons _ _ _ _ (.val _ rfl) .nil)),Below.refl _ _⟩
theorem lib_trimLeft1 {x:UInt8} (hf:FOK P f) (hc:∀ (s:ByteArray) (c:UInt8),c.toNat < 128 → ∀ w:World,Calls P f #[.string s,.string ⟨#[c]⟩] w fun e w'=>e = .returned (.string ⟨(Lib.trimLeftB s.data.toList c).toArray⟩) ∧ w' = w) (hx:x.toNat < 128):CallsX P f [.str a,.str [x]] (.str (Lib.trimLeftB a x)):=by
 refine pureX hf fun F w args _ hr=>?_
 rw [args2 hr]
 refine (hc ⟨a.toArray⟩ x hx w).mono ?_
 rintro e w' ⟨rfl,rfl⟩
 exact ⟨_,rfl,fun F' w''=>.str _,Below.refl _ _⟩
theorem lib_trimRight1 {x:UInt8} (hf:FOK P f) (hc:∀ (s:ByteArray) (c:UInt8),c.toNat < 128 → ∀ w:World,s.size ≤ 9223372036854775807 → Calls P f #[.string s,.string ⟨#[c]⟩] w fun e w'=>e = .returned (.string ⟨(Lib.trimRightB s.data.toList c).toArray⟩) ∧ w' = w) (hx:x.toNat < 128)
  (ha:decide (a.length < 4294967281) = true):CallsX P f [.str a,.str [x]] (.str (Lib.trimRightB a x)):=by
 refine pureX hf fun F w args _ hr=>?_
 rw [args2 hr]
 have:=of_decide_eq_true ha
 refine (hc ⟨a.toArray⟩ x hx w (by rw [sizeL]; omega)).mono ?_
 rintro e w' ⟨rfl,rfl⟩
 exact ⟨_,rfl,fun F' w''=>.str _,Below.refl _ _⟩
theorem lib_trim1 {x:UInt8} (hf:FOK P f) (hc:∀ (s:ByteArray) (c:UInt8),c.toNat < 128 → ∀ w:World,s.size ≤ 9223372036854775807 → Calls P f #[.string s,.string ⟨#[c]⟩] w fun e w'=>e = .returned (.string ⟨(Lib.trimB s.data.toList c).toArray⟩) ∧ (w' = w ∨ w' = w.drew)) (hx:x.toNat < 128)
  (ha:decide (a.length < 4294967281) = true):CallsX P f [.str a,.str [x]] (.str (Lib.trimB a x)):=by
 refine pureX hf fun F w args _ hr=>?_
 rw [args2 hr]
 have:=of_decide_eq_true ha
 refine (hc ⟨a.toArray⟩ x hx w (by rw [sizeL]; omega)).mono ?_
 rintro e w' ⟨rfl,rfl | rfl⟩
 ·exact ⟨_,rfl,fun F' w''=>.str _,Below.refl _ _⟩
 ·exact ⟨_,rfl,fun F' w''=>.str _,(Below.refl _ _).drew⟩
end
end Go.Proofs.YtibgdilkodjojaaDoor.RX
