import Derived.Test.YtibgdilkodjojaaDoorQRxGen
import Derived.Sort.OwnSorted
import Derived.Shelf.Vars
import Derived.Shelf.Slices.CompactS
import Derived.Shelf.Spec.SlicesGrow
set_option linter.all false
namespace Go.Proofs.YtibgdilkodjojaaDoor.RX
open Go.RowKit Go.Sort
section
variable {P:Program} {F:Fz} {w1:Pt P} {B:Env}
theorem Rep.head {F:Fz} {w:World} {B:Env} {α:Type} {d:α} {enc:α → List D} {l l1:List α} {p:Option Nat} {n cap:Nat} (h:Rep F w B (.recs d enc l) (rowVal p n cap)) (hp:l1 <+: l) (hn:n = l.length):Rep F w B (.recs d enc l1) (.slice (p.map fun b=>⟨b,0,none⟩) l1.length cap):=by
 generalize hv:rowVal p n cap = v at h
 unfold rowVal at hv
 cases h with
 | recsNil _ _ q =>
  have:l1 = []:=List.prefix_nil.1 hp
  subst this
  injection hv with e1 e2 e3
  rw [e1,e3]
  exact .recsNil d enc _
 | recs _ _ _ g off cap size vs hz h1 h2 h3 hc =>
  have hle:=hp.length_le
  obtain ⟨ys,rfl⟩:=hp
  injection hv with e1 e2 e3
  rw [e1,e3]
  refine .recs d enc l1 g off cap size vs hz (fun i hi=>h1 i (by omega)) (fun i hi=>?_) (fun i j hi hj=>h3 i j (by omega) hj) (by omega)
  have:=h2 i (by omega)
  rwa [List.getElem?_append_left hi] at this
end
end Go.Proofs.YtibgdilkodjojaaDoor.RX
