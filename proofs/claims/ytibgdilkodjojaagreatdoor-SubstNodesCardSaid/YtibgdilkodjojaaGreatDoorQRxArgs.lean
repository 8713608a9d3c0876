import Derived.Test.YtibgdilkodjojaaGreatDoorQRxGen
import Derived.Deep.Slices
import Derived.Carry
import Derived.ChangeOld
import Derived.OpenShut
import Derived.ProofKit
import Derived.HandedShaped
set_option linter.all false
namespace Go.Proofs.YtibgdilkodjojaaGreatDoor.RX
open Go.RowKit Go.ChangeShapes Go.WideShapes Go.Deep
def Old (W:World):Fz:=fun g _=>g < W.heap.size
def Opens (P:Program) (t:Nat) {α:Type} (wf:α → Prop) (cells:α → List D):Prop :=
 ∀ (H:Type) (enc:TypeId × Value → H) (W:World) (fuel:Nat) (cs:List Value) (d:DataW H) (ps:List MemPlace),DataW.trod enc P W 0 (fun _=>true) true fuel t cs = some (d,ps) → ∃ x,wf x ∧ RepL (Old W) W NB (cells x) cs
section
variable {P:Program}
theorem opens_int {t:Nat} {k:IntKind} (ht:P.underlying t = some (.int k)):Opens P t (fun n:Int=>k.min ≤ n ∧ n ≤ k.max) (fun n=>[.val (.int k n)]):=by
 intro H enc W fuel cs d ps h
 obtain ⟨n,rfl,_,hw⟩:=DataW.trod_int ht h
 exact ⟨n,by simpa [Lit.wf] using hw,.cons _ _ _ _ (.val _ rfl) .nil⟩
theorem opens_str {t:Nat} (ht:P.underlying t = some .string):Opens P t (fun l:List UInt8=>l.length ≤ maxLen) (fun l=>[.str l]):=by
 intro H enc W fuel cs d ps h
 obtain ⟨s,rfl,_,hw⟩:=DataW.trod_string ht h
 refine ⟨s.data.toList,?_,?_⟩
 ·have:s.data.toList.length = s.size:=by simp
  show s.data.toList.length ≤ maxLen
  rw [this]; exact hw
 ·have:=RepL.cons (F:=Old W) (w:=W) (B:=NB) _ _ _ _ (.str s.data.toList) .nil
  simpa using this
theorem cell_old {W:World} {a:Addr} {v:Value} (h:W.cell? a = some v):a.block < W.heap.size ∧ a.spot = none:=by
 unfold World.cell? at h
 split at h
 ·rename_i hh
  refine ⟨(Array.getElem?_eq_some_iff.1 hh).1,?_⟩
  split at h
  ·cases h
  ·rename_i hs; simpa using hs
 ·cases h
def OpensN (P:Program) (t:Nat) {α:Type} (wf:α → Prop) (cells:α → List D) (N:Nat):Prop :=
 ∀ (H:Type) (enc:TypeId × Value → H) (W:World) (fuel:Nat) (cs:List Value) (d:DataW H) (ps:List MemPlace),SizeOf.sizeOf d < N → DataW.trod enc P W 0 (fun _=>true) true fuel t cs = some (d,ps) → ∃ x,wf x ∧ RepL (Old W) W NB (cells x) cs
theorem Opens.n {t:Nat} {α:Type} {wf:α → Prop} {cells:α → List D} (h:Opens P t wf cells) (N:Nat):OpensN P t wf cells N:=fun H enc W fuel cs d ps _=>h H enc W fuel cs d ps
theorem opens_ind {t:Nat} {α:Type} {wf:α → Prop} {cells:α → List D} (h:∀ N,OpensN P t wf cells N → OpensN P t wf cells (N + 1)):Opens P t wf cells:=by
 have key:∀ N,OpensN P t wf cells N:=by
  intro N
  induction N with
  | zero=>intro H enc W fuel cs d ps hN; omega
  | succ N ih=>exact h N ih
 exact fun H enc W fuel cs d ps=>key (SizeOf.sizeOf d + 1) H enc W fuel cs d ps (by omega)
theorem opensN_slice {t e:Nat} {α:Type} {wf:α → Prop} {cells:α → List D} {N:Nat} (d0:α) (ht:P.underlying t = some (.slice e)) (hsz:P.cellsOf e = (cells d0).length) (hpos:0 < P.cellsOf e) (he:OpensN P e wf cells N) :
  OpensN P t (fun l:List α=>l.length ≤ maxLen ∧ ∀ x ∈ l,wf x) (fun l=>[.recs d0 cells l]) N:=by
 intro H enc W fuel cs d ps hN h
 rcases open_slice ht h with ⟨rfl,_⟩ | ⟨a,len,cap,m,n,Dt,Pl,rfl,hb,hl,hm,hmm,hd,hx⟩
 ·exact ⟨[],⟨by simp,by simp⟩,.cons _ _ _ _ (.recsNil _ _ none) .nil⟩
 simp only [if_true] at hmm
 obtain rfl:=hmm
 have hel:∀ i,i < len → ∃ y:α × List Value,wf y.1 ∧ RepL (Old W) W NB (cells y.1) y.2 ∧ y.2.length = P.cellsOf e ∧ ∀ j,j < P.cellsOf e → W.cell? ((a.add (i * P.cellsOf e)).add j) = y.2[j]?:=by
  intro i hi
  obtain ⟨cs',h1,h2⟩:=hx i (by omega)
  have hlt:SizeOf.sizeOf (Dt i) < N:=by
   cases hd
   have h3:Dt i ∈ (List.range len).map Dt:=List.mem_map.2 ⟨i,List.mem_range.2 hi,rfl⟩
   have h4:=List.sizeOf_lt_of_mem h3
   simp only [DataW.slice.sizeOf_spec] at hN
   omega
  obtain ⟨x,hw,hr⟩:=he H enc W n cs' _ _ hlt h2
  obtain ⟨_,hlen,hc⟩:=World.cells?_some h1
  exact ⟨(x,cs'),hw,hr,hlen,hc⟩
 haveI:Inhabited (α × List Value):=⟨(d0,[])⟩
 obtain ⟨f,hf⟩:=choose_lt hel
 by_cases h0:m = 0
 ·have hl0:len = 0:=by omega
  subst h0; subst hl0
  exact ⟨[],⟨by simp,by simp⟩,.cons _ _ _ _ (.recsNil _ _ (some a)) .nil⟩
 have hspot:a.spot = none:=by
  obtain ⟨cs',h1,_⟩:=hx 0 (by omega)
  obtain ⟨_,hlen,hc⟩:=World.cells?_some h1
  have h2:=hc 0 hpos
  have h3:(0:Nat) < cs'.length:=by omega
  rw [List.getElem?_eq_getElem h3] at h2
  have:=(cell_old h2).2
  simpa [Addr.add] using this
 obtain ⟨g,off,spot⟩:=a
 simp only at hspot
 subst hspot
 refine ⟨(List.range len).map fun i=>(f i).1,⟨by simp; exact Nat.le_trans hl hm,fun x hx=>?_⟩,.cons _ _ _ _ ?_ .nil⟩
 ·obtain ⟨i,hi,rfl⟩:=List.mem_map.1 hx
  exact (hf i (List.mem_range.1 hi)).1
 ·have hlen:((List.range len).map fun i=>(f i).1).length = len:=by simp
  have key:=Rep.recs (F:=Old W) (w:=W) (B:=NB) d0 cells ((List.range len).map fun i=>(f i).1) g off m (P.cellsOf e) (fun i=>(f i).2) hsz
   (fun i hi=>(hf i (by omega)).2.2.1)
   (fun i hi=>by
    have hi':i < len:=by omega
    have:((List.range len).map fun i=>(f i).1)[i]?.getD d0 = (f i).1:=by simp [hi']
    rw [this]; exact (hf i hi').2.1)
   (fun i j hi hj=>by
    have hi':i < len:=by omega
    have h2:=(hf i hi').2.2.2 j hj
    rw [add_add] at h2
    have h3:(Addr.add ⟨g,off,none⟩ (i * P.cellsOf e + j)) = ⟨g,off + i * P.cellsOf e + j,none⟩:=by
     unfold Addr.add; split <;> simp_all <;> omega
    rw [h3] at h2
    refine ⟨?_,h2⟩
    have h4:j < (f i).2.length:=by rw [(hf i hi').2.2.1]; exact hj
    rw [List.getElem?_eq_getElem h4] at h2
    exact (cell_old h2).1)
   (by omega)
  rw [hlen] at key
  exact key
theorem opens_slice {t e:Nat} {α:Type} {wf:α → Prop} {cells:α → List D} (d0:α) (ht:P.underlying t = some (.slice e)) (hsz:P.cellsOf e = (cells d0).length) (hpos:0 < P.cellsOf e) (he:Opens P e wf cells) :
  Opens P t (fun l:List α=>l.length ≤ maxLen ∧ ∀ x ∈ l,wf x) (fun l=>[.recs d0 cells l]) :=
 fun H enc W fuel cs d ps=>opensN_slice d0 ht hsz hpos (he.n (SizeOf.sizeOf d + 1)) H enc W fuel cs d ps (by omega)
theorem opensN_kids {t e:Nat} {α:Type} {wf:α → Prop} {pre:α → List D} {kids:α → List α} {N:Nat} (d0:α) (ht:P.underlying t = some (.slice e)) (hsz:P.cellsOf e = (treeEnc d0 pre kids d0).length) (hpos:0 < P.cellsOf e) (he:OpensN P e wf (treeEnc d0 pre kids) N) :
  OpensN P t (fun l:List α=>l.length ≤ maxLen ∧ ∀ x ∈ l,wf x) (fun l=>[.tree d0 pre kids l]) N:=by
 intro H enc W fuel cs d ps hN h
 obtain ⟨l,hw,hr⟩:=opensN_slice d0 ht hsz hpos he H enc W fuel cs d ps hN h
 refine ⟨l,hw,?_⟩
 cases hr with
 | cons _ v _ vs hv hs=>cases hs; exact .cons _ _ _ _ (.tree _ _ _ _ _ hv) .nil
def PartsOK (F:Fz) (w:World):List (List D × Nat) → List Value → Prop
 | [],cs=>cs = []
 | (ds,s) :: l,cs=>RepL F w NB ds (cs.take s) ∧ PartsOK F w l (cs.drop s)
theorem PartsOK.rep {F w}:∀ {l:List (List D × Nat)} {cs:List Value},PartsOK F w l cs → RepL F w NB (l.flatMap (·.1)) cs
 | [],cs,h=>by cases h; exact .nil
 | (ds,s) :: l,cs,h=>by
  have:=RepL.append h.1 (PartsOK.rep h.2)
  rwa [List.take_append_drop] at this
def PartsAt (F:Fz) (w:World) (cs:List Value):Nat → List (List D × Nat) → Prop
 | o,[]=>cs.length ≤ o
 | o,(ds,s) :: l=>RepL F w NB ds ((cs.drop o).take s) ∧ PartsAt F w cs (o + s) l
theorem PartsAt.rep {F w} {cs:List Value}:∀ {o:Nat} {l:List (List D × Nat)},PartsAt F w cs o l → RepL F w NB (l.flatMap (·.1)) (cs.drop o)
 | o,[],h=>by rw [List.drop_eq_nil_of_le h]; exact .nil
 | o,(ds,s) :: l,h=>by
  have:=RepL.append h.1 (PartsAt.rep h.2)
  rw [← List.drop_drop,List.take_append_drop] at this
  exact this
theorem repAt {F w} {cs:List Value} {ds:List D} {a b a' b':Nat} (h:RepL F w NB ds ((cs.drop a).take b)) (ha:a = a') (hb:b = b'):RepL F w NB ds ((cs.drop a').take b'):=by subst ha; subst hb; exact h
theorem parts_all {F w} {cs:List Value} {l:List (List D × Nat)} {ds:List D} (h:PartsAt F w cs 0 l) (e:l.flatMap (·.1) = ds):RepL F w NB ds cs:=by subst e; simpa using PartsAt.rep h
theorem field_ofN {H:Type} {enc:TypeId × Value → H} {W:World} {fuel t:Nat} {cs:List Value} {d:DataW H} {ps:List MemPlace} {fs:Array Field} {N:Nat} (ht:P.underlying t = some (.struct fs)) (hN:SizeOf.sizeOf d < N + 1)
  (h:DataW.trod enc P W 0 (fun _=>true) true fuel t cs = some (d,ps)):cs.length = P.cellsOf t ∧ ∀ (i:Nat) (f:Field) {α:Type} {wf:α → Prop} {cells:α → List D},fs[i]? = some f → OpensN P f.type wf cells N →
   ∃ x,wf x ∧ RepL (Old W) W NB (cells x) ((cs.drop f.offset).take (P.cellsOf f.type)):=by
 obtain ⟨xs,n,_,hd,hlen,hxs,hx⟩:=DataW.trod_struct ht h
 refine ⟨hlen,fun i f α wf cells hf ho=>?_⟩
 have hi:i < fs.size:=(Array.getElem?_eq_some_iff.1 hf).1
 have h1:=hx i f hf
 rw [List.getElem?_eq_getElem (by omega)] at h1
 refine ho H enc W n _ _ _ ?_ h1
 cases hd
 have h2:(xs[i]'(by omega)).1 ∈ xs.map (·.1):=List.mem_map.2 ⟨_,List.getElem_mem _,rfl⟩
 have h3:=List.sizeOf_lt_of_mem h2
 simp only [DataW.agg.sizeOf_spec] at hN
 simp only [List.get_eq_getElem]
 omega
theorem field_of {H:Type} {enc:TypeId × Value → H} {W:World} {fuel t:Nat} {cs:List Value} {d:DataW H} {ps:List MemPlace} {fs:Array Field} (ht:P.underlying t = some (.struct fs))
  (h:DataW.trod enc P W 0 (fun _=>true) true fuel t cs = some (d,ps)):cs.length = P.cellsOf t ∧ ∀ (i:Nat) (f:Field) {α:Type} {wf:α → Prop} {cells:α → List D},fs[i]? = some f → Opens P f.type wf cells →
   ∃ x,wf x ∧ RepL (Old W) W NB (cells x) ((cs.drop f.offset).take (P.cellsOf f.type)):=by
 obtain ⟨h1,h2⟩:=field_ofN ht (Nat.lt_succ_self (SizeOf.sizeOf d)) h
 exact ⟨h1,fun i f α wf cells hf ho=>h2 i f hf (ho.n _)⟩
theorem okWide_one {W:World} {r:Reach} {b t:Nat} {v:Value} {d:TypeDesc} (hd:P.underlying t = some d) (ha:aggDesc d = false) (h:Value.okWide P W r b t v):v.cells.toList = [v]:=by
 unfold Value.okWide at h
 rw [hd] at h
 cases v <;> first | rfl | skip
 all_goals cases d <;> simp_all [aggDesc,Cell.okWide,Cell.ok]
theorem arg_one {H:Type} {enc:TypeId × Value → H} {W:World} {r:Reach} {b t:Nat} {v:Value} {d:TypeDesc} {dw:DataW H} {ps:List MemPlace} {α:Type} {wf:α → Prop} {cell:α → D} (hd:P.underlying t = some d) (ha:aggDesc d = false)
  (hv:Value.okWide P W r b t v) (h:DataW.Trod enc P W 0 (fun _=>true) true t v dw ps) (ho:Opens P t wf fun x=>[cell x]):∃ x,wf x ∧ Rep (Old W) W NB (cell x) v:=by
 obtain ⟨fuel,hf⟩:=h
 rw [okWide_one hd ha hv] at hf
 obtain ⟨x,hw,hr⟩:=ho H enc W fuel _ _ _ hf
 cases hr with
 | cons _ _ _ _ h _=>exact ⟨x,hw,h⟩
theorem arg_agg {H:Type} {enc:TypeId × Value → H} {W:World} {r:Reach} {b t:Nat} {v:Value} {fs:Array Field} {dw:DataW H} {ps:List MemPlace} {α:Type} {wf:α → Prop} {cells:α → List D} (hd:P.underlying t = some (.struct fs))
  (hv:Value.okWide P W r b t v) (h:DataW.Trod enc P W 0 (fun _=>true) true t v dw ps) (ho:Opens P t wf cells):∃ x,wf x ∧ Rep (Old W) W NB (.agg (cells x)) v:=by
 obtain ⟨fuel,hf⟩:=h
 unfold Value.okWide at hv
 rw [hd] at hv
 obtain ⟨cs,rfl,_,_⟩:=hv
 obtain ⟨x,hw,hr⟩:=ho H enc W fuel _ _ _ hf
 refine ⟨x,hw,?_⟩
 have:=Rep.agg (F:=Old W) (w:=W) (B:=NB) _ _ hr
 simpa [Value.cells] using this
theorem carry_all (hl:laidOutB P = true) {H:Type} {enc:TypeId × Value → H} {W W':World} (hb:Below W.heap.size W W'):∀ {ts:List TypeId} {vs:List Value} {ds:List (DataW H)} {ps:List MemPlace},
  (ts.all fun t=>P.readableRec t && decide (t < P.types.size)) = true → (∀ x ∈ ps,x.block < W.heap.size) → DataW.TrodAll enc P W 0 (fun _=>true) true ts vs ds ps → DataW.TrodAll enc P W' 0 (fun b=>decide (b < W.heap.size)) true ts vs ds ps
 | [],vs,ds,ps,_,_,h=>by
  obtain ⟨rfl,rfl,rfl⟩:=trodAll_nil h
  exact trodAll_mk0
 | t :: ts,vs,ds,ps,hr,hlt,h=>by
  obtain ⟨v,vs',d,ds',p,q,rfl,rfl,rfl,h1,h2⟩:=trodAll_cons h
  simp only [List.all_cons,Bool.and_eq_true,decide_eq_true_eq] at hr
  exact trodAll_cons_mk (Below.trod hl hr.1.1 hr.1.2 h1 hb fun x hx=>hlt x (List.mem_append_left _ hx)) (carry_all hl hb hr.2 (fun x hx=>hlt x (List.mem_append_right _ hx)) h2)
end
theorem low_eq (P:Program):P.low = P.globals.size + 5:=by simp [Program.low,begin]
theorem shp_of {P:Program} {W:World} (h:W.ShapedOpen P):Shp P W:=by
 refine ⟨W,h,?_,fun _ _=>rfl⟩
 have hl:=low_eq P
 obtain ⟨o,o₀,h1,_⟩:=h.2 (P.globals.size + 4) (by omega) (by have:P.low = (begin P (fun _ _=>0) default).world.heap.size:=rfl; omega)
 have:=(Array.getElem?_eq_some_iff.1 h1).1
 omega
end Go.Proofs.YtibgdilkodjojaaGreatDoor.RX
