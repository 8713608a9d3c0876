import Derived.Test.YtibgdilkodjojaaGreatDoorQRxGen
import Derived.Lib.LazyBuf
set_option linter.all false
namespace Go.Proofs.YtibgdilkodjojaaGreatDoor.RX
open Go.RowKit
section
variable {P:Program} {nt:Nat} {F0:Fz} {w0:Pt P} {K:List (Nat × D)} {L:Boxes} {Q:Exit → Act → World → Prop}
mutual
def D.plain:D → Bool
 | .val _=>true
 | .str _=>true
 | .agg ds=>D.plains ds
 | .tup ds=>D.plains ds
 | _=>false
def D.plains:List D → Bool
 | []=>true
 | d :: ds=>D.plain d && D.plains ds
end
mutual
theorem Rep.plain {F F':Fz} {w w':World} {B B':Env}:∀ {d:D} {v:Value},D.plain d = true → Rep F w B d v → Rep F' w' B' d v
 | .val _,_,_,hr=>by cases hr; exact .val _ (by assumption)
 | .str _,_,_,hr=>by cases hr; exact .str _
 | .agg ds,_,h,hr=>by cases hr with | agg _ vs hr=>exact .agg ds vs (RepL.plain (ds:=ds) h hr)
 | .tup ds,_,h,hr=>by cases hr with | tup _ vs hr=>exact .tup ds vs (RepL.plain (ds:=ds) h hr)
theorem RepL.plain {F F':Fz} {w w':World} {B B':Env}:∀ {ds:List D} {vs:List Value},D.plains ds = true → RepL F w B ds vs → RepL F' w' B' ds vs
 | [],_,_,.nil=>.nil
 | d :: ds,_,h,.cons _ v _ vs hr hrs=>by
  simp only [D.plains,Bool.and_eq_true] at h
  exact .cons d v ds vs (Rep.plain h.1 hr) (RepL.plain h.2 hrs)
end
def vacCell (j k:Nat) (ds:List D):List D:=match ds[j]? with | some (.val (.slice none 0 0))=>ds.set j (.row k) | _=>ds
def vacL (b j k:Nat) (L:Boxes):Boxes:=L.map fun x=>bif x.1 == b then (x.1,x.2.1,vacCell j k x.2.2) else x
theorem RepL.setAt {F:Fz} {w:World} {B:Env}:∀ {ds:List D} {vs:List Value} {j:Nat} {d d':D},RepL F w B ds vs → ds[j]? = some d → (∀ v,Rep F w B d v → Rep F w B d' v) → RepL F w B (ds.set j d') vs
 | [],_,j,d,d',_,h,_=>by simp at h
 | x :: ds,_,0,d,d',.cons _ v _ vs hr hrs,h,hd=>by
  simp only [List.getElem?_cons_zero,Option.some.injEq] at h
  subst h
  exact .cons d' v ds vs (hd v hr) hrs
 | x :: ds,_,j + 1,d,d',.cons _ v _ vs hr hrs,h,hd=>by
  simp only [List.getElem?_cons_succ] at h
  exact .cons x v _ vs hr (RepL.setAt hrs h hd)
theorem set_flat:∀ {ds:List D} {j:Nat} {d:D},ds.all D.flat = true → d.flat = true → (ds.set j d).all D.flat = true
 | [],_,_,_,_=>rfl
 | x :: ds,0,d,h,hd=>by
  simp only [List.all_cons,Bool.and_eq_true] at h
  simp only [List.set_cons_zero,List.all_cons,Bool.and_eq_true]
  exact ⟨hd,h.2⟩
 | x :: ds,j + 1,d,h,hd=>by
  simp only [List.all_cons,Bool.and_eq_true] at h
  simp only [List.set_cons_succ,List.all_cons,Bool.and_eq_true]
  exact ⟨h.1,set_flat h.2 hd⟩
theorem St.vacantB (b j k e:Nat) {α:Type} {d:α} {enc:α → List D} (hg:GoodR (.recs d enc [])) (hlt:k < 1000000) (hf:freshKey k K L = true) {L':Boxes} (hv:vacL b j k L = L'):∀ a w,St nt F0 w0 K L a w → St nt F0 w0 K ((k,e,[.rowc false d enc []]) :: L') a w:=by
 rintro a w ⟨B,F,hb,hd,hs,hK⟩
 subst hv
 simp only [freshKey,Bool.and_eq_true] at hf
 have hfK:∀ x ∈ K,D.names k x.2 = false:=fun x hx=>by simpa using List.all_eq_true.1 hf.1 x hx
 have hfL:∀ x ∈ L,x.1 ≠ k ∧ D.namess k x.2.2 = false:=fun x hx=>by simpa using List.all_eq_true.1 hf.2 x hx
 have hB':setB B k (.row none 0 0) k = some (.row none 0 0):=setB_self _ _ _
 have hbase:=hb.newKey (t:=k) (ty:=e) (ds:=[.rowc false d enc []]) (F':=F) (w':=w) (B':=setB B k (.row none 0 0)) (M':=memL L) (Grow.refl _ _)
  (.row false d enc [] none 0 0 hB' ⟨rfl,hg.1,hg.2,[],.nil,⟨by simp,.inl ⟨rfl,rfl,rfl⟩⟩,fun b hb=>by cases hb⟩) (fun b hbk=>by rw [blkOf_row hB'] at hbk; cases hbk)
  (fun j t' ds hm=>⟨hm,(hfL _ hm).1,setB_ne _ _ _ _ (hfL _ hm).1,fun F w vs hr=>hr.rebox k (setB_ne _ _ _) (hfL _ hm).2⟩) (fun b _=>⟨rfl,fun _ h=>h⟩) hb.frz (fun g j h=>.inl h) (BelowS.refl _ _ _) (fun q hq=>setB_ne _ _ _ _ (by unfold LIM at hq; omega))
 have hmem:∀ q t es,memL ((k,e,[D.rowc false d enc []]) :: vacL b j k L) q t es → ∃ ds,memBox k e [.rowc false d enc []] (memL L) q t ds ∧ (es = ds ∨ (ds[j]? = some (.val (.slice none 0 0)) ∧ es = ds.set j (.row k))):=by
  intro q t es hm
  rcases List.mem_cons.1 hm with hm | hm
  ·cases hm; exact ⟨_,.inl ⟨rfl,rfl,rfl⟩,.inl rfl⟩
  ·obtain ⟨x,hx,he⟩:=List.mem_map.1 hm
   obtain ⟨q',t',ds⟩:=x
   cases hc:q' == b with
   | false=>simp only [hc,cond_false] at he; cases he; exact ⟨_,.inr hx,.inl rfl⟩
   | true =>
    simp only [hc,cond_true] at he
    cases he
    refine ⟨ds,.inr hx,?_⟩
    unfold vacCell
    split
    ·rename_i hcell; exact .inr ⟨hcell,rfl⟩
    ·exact .inl rfl
 refine ⟨setB B k (.row none 0 0),F,⟨fun q t es hm=>?_,fun q t es c hm hbk=>?_,fun i i' c hi hi'=>hbase.inj i i' c ?_ ?_,hbase.frz,hbase.more,hbase.grow,hbase.below,hbase.env⟩,hd,hs,fun x hx=>?_⟩
 ·obtain ⟨ds,h1,h2⟩:=hmem _ _ _ hm
  have hh:=hbase.boxes _ _ _ h1
  rcases h2 with rfl | ⟨hcell,rfl⟩
  ·exact hh
  ·cases hh with
   | box _ b vs h3 h4 h5 h6 h7=>exact .box _ b vs h3 (h4.setAt hcell fun v hv=>by cases hv; exact .row k none 0 0 hB') (set_flat h5 rfl) h6 h7
   | row m d enc l p n cap h3 h4 =>
    cases j with
    | zero=>simp at hcell
    | succ j=>simp at hcell
   | map kk ag d enc l b h3 h4 =>
    cases j with
    | zero=>simp at hcell
    | succ j=>simp at hcell
   | obj b o S h3 h4 =>
    cases j with
    | zero=>simp at hcell
    | succ j=>simp at hcell
 ·obtain ⟨ds,h1,_⟩:=hmem _ _ _ hm
  exact hbase.new _ _ _ _ h1 hbk
 ·obtain ⟨t,es,hm⟩:=hi
  obtain ⟨ds,h1,_⟩:=hmem _ _ _ hm
  exact ⟨_,_,h1⟩
 ·obtain ⟨t,es,hm⟩:=hi'
  obtain ⟨ds,h1,_⟩:=hmem _ _ _ hm
  exact ⟨_,_,h1⟩
 ·obtain ⟨v,h1,h2⟩:=hK x hx
  exact ⟨v,h1,h2.rebox k (setB_ne _ _ _) (hfK x hx)⟩
end
end Go.Proofs.YtibgdilkodjojaaGreatDoor.RX
