import Derived.Test.YtibgdilkodjojaaDoorQRxGen
import Derived.Deep.Slices
import Derived.Carry
import Derived.ChangeOld
import Derived.OpenShut
import Derived.ProofKit
import Derived.HandedShaped
set_option linter.all false
namespace Go.Proofs.YtibgdilkodjojaaDoor.RX
open Go.RowKit Go.ChangeShapes Go.WideShapes Go.Deep
def Old (W:World):Fz:=fun g _=>g < W.heap.size
def Opens (P:Program) (t:Nat) {α:Type} (wf:α → Prop) (cells:α → List D):Prop :=
 ∀ (H:Type) (enc:TypeId × Value → H) (W:World) (fuel:Nat) (cs:List Value) (d:DataW H) (ps:List MemPlace),DataW.trod enc P W 0 (fun _=>true) true fuel t cs = some (d,ps) → ∃ x,wf x ∧ RepL (Old W) W NB (cells x) cs
section
variable {P:Program}
theorem opens_str {t:Nat} (ht:P.underlying t = some .string):Opens P t (fun l:List UInt8=>l.length ≤ maxLen) (fun l=>[.str l]):=by
 intro H enc W fuel cs d ps h
 obtain ⟨s,rfl,_,hw⟩:=DataW.trod_string ht h
 refine ⟨s.data.toList,?_,?_⟩
 ·have:s.data.toList.length = s.size:=by simp
  show s.data.toList.length ≤ maxLen
  rw [this]; exact hw
 ·have:=RepL.cons (F:=Old W) (w:=W) (B:=NB) _ _ _ _ (.str s.data.toList) .nil
  simpa using this
def OpensN (P:Program) (t:Nat) {α:Type} (wf:α → Prop) (cells:α → List D) (N:Nat):Prop :=
 ∀ (H:Type) (enc:TypeId × Value → H) (W:World) (fuel:Nat) (cs:List Value) (d:DataW H) (ps:List MemPlace),SizeOf.sizeOf d < N → DataW.trod enc P W 0 (fun _=>true) true fuel t cs = some (d,ps) → ∃ x,wf x ∧ RepL (Old W) W NB (cells x) cs
theorem Opens.n {t:Nat} {α:Type} {wf:α → Prop} {cells:α → List D} (h:Opens P t wf cells) (N:Nat):OpensN P t wf cells N:=fun H enc W fuel cs d ps _=>h H enc W fuel cs d ps
def PartsOK (F:Fz) (w:World):List (List D × Nat) → List Value → Prop
 | [],cs=>cs = []
 | (ds,s) :: l,cs=>RepL F w NB ds (cs.take s) ∧ PartsOK F w l (cs.drop s)
theorem PartsOK.rep {F w}:∀ {l:List (List D × Nat)} {cs:List Value},PartsOK F w l cs → RepL F w NB (l.flatMap (·.1)) cs
 | [],cs,h=>by cases h; exact .nil
 | (ds,s) :: l,cs,h=>by
  have:=RepL.append h.1 (PartsOK.rep h.2)
  rwa [List.take_append_drop] at this
def PartsAt (F:Fz) (w:World) (cs:List Value):Nat → List (List D × Nat) → Prop
 | o,[]=>cs.length ≤ o
 | o,(ds,s) :: l=>RepL F w NB ds ((cs.drop o).take s) ∧ PartsAt F w cs (o + s) l
theorem PartsAt.rep {F w} {cs:List Value}:∀ {o:Nat} {l:List (List D × Nat)},PartsAt F w cs o l → RepL F w NB (l.flatMap (·.1)) (cs.drop o)
 | o,[],h=>by rw [List.drop_eq_nil_of_le h]; exact .nil
 | o,(ds,s) :: l,h=>by
  have:=RepL.append h.1 (PartsAt.rep h.2)
  rw [← List.drop_drop,List.take_append_drop] at this
  exact this
theorem okWide_one {W:World} {r:Reach} {b t:Nat} {v:Value} {d:TypeDesc} (hd:P.underlying t = some d) (ha:aggDesc d = false) (h:Value.okWide P W r b t v):v.cells.toList = [v]:=by
 unfold Value.okWide at h
 rw [hd] at h
 cases v <;> first | rfl | skip
 all_goals cases d <;> simp_all [aggDesc,Cell.okWide,Cell.ok]
theorem arg_one {H:Type} {enc:TypeId × Value → H} {W:World} {r:Reach} {b t:Nat} {v:Value} {d:TypeDesc} {dw:DataW H} {ps:List MemPlace} {α:Type} {wf:α → Prop} {cell:α → D} (hd:P.underlying t = some d) (ha:aggDesc d = false)
  (hv:Value.okWide P W r b t v) (h:DataW.Trod enc P W 0 (fun _=>true) true t v dw ps) (ho:Opens P t wf fun x=>[cell x]):∃ x,wf x ∧ Rep (Old W) W NB (cell x) v:=by
 obtain ⟨fuel,hf⟩:=h
 rw [okWide_one hd ha hv] at hf
 obtain ⟨x,hw,hr⟩:=ho H enc W fuel _ _ _ hf
 cases hr with
 | cons _ _ _ _ h _=>exact ⟨x,hw,h⟩
theorem carry_all (hl:laidOutB P = true) {H:Type} {enc:TypeId × Value → H} {W W':World} (hb:Below W.heap.size W W'):∀ {ts:List TypeId} {vs:List Value} {ds:List (DataW H)} {ps:List MemPlace},
  (ts.all fun t=>P.readableRec t && decide (t < P.types.size)) = true → (∀ x ∈ ps,x.block < W.heap.size) → DataW.TrodAll enc P W 0 (fun _=>true) true ts vs ds ps → DataW.TrodAll enc P W' 0 (fun b=>decide (b < W.heap.size)) true ts vs ds ps
 | [],vs,ds,ps,_,_,h=>by
  obtain ⟨rfl,rfl,rfl⟩:=trodAll_nil h
  exact trodAll_mk0
 | t :: ts,vs,ds,ps,hr,hlt,h=>by
  obtain ⟨v,vs',d,ds',p,q,rfl,rfl,rfl,h1,h2⟩:=trodAll_cons h
  simp only [List.all_cons,Bool.and_eq_true,decide_eq_true_eq] at hr
  exact trodAll_cons_mk (Below.trod hl hr.1.1 hr.1.2 h1 hb fun x hx=>hlt x (List.mem_append_left _ hx)) (carry_all hl hb hr.2 (fun x hx=>hlt x (List.mem_append_right _ hx)) h2)
end
theorem low_eq (P:Program):P.low = P.globals.size + 5:=by simp [Program.low,begin]
theorem shp_of {P:Program} {W:World} (h:W.ShapedOpen P):Shp P W:=by
 refine ⟨W,h,?_,fun _ _=>rfl⟩
 have hl:=low_eq P
 obtain ⟨o,o₀,h1,_⟩:=h.2 (P.globals.size + 4) (by omega) (by have:P.low = (begin P (fun _ _=>0) default).world.heap.size:=rfl; omega)
 have:=(Array.getElem?_eq_some_iff.1 h1).1
 omega
end Go.Proofs.YtibgdilkodjojaaDoor.RX
