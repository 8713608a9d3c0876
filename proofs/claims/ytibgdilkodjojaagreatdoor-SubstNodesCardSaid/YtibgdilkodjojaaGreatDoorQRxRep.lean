import Derived.Test.YtibgdilkodjojaaGreatDoorQRxDef
import Derived.Lib.Strings
import Derived.Laws.AppendOwn
import Derived.MapKept
set_option linter.all false
namespace Go.Proofs.YtibgdilkodjojaaGreatDoor.RX
open Go.RowKit
abbrev Fz:=Nat → Nat → Prop
inductive Ref where
 | box (b:Nat)
 | row (p:Option Nat) (n cap:Nat)
 | map (b:Nat)
def Ref.blk:Ref → Option Nat
 | .box b=>some b
 | .row p _ _=>p
 | .map b=>some b
def rowVal (p:Option Nat) (n cap:Nat):Value:=.slice (p.map fun b=>⟨b,0,none⟩) n cap
def IsRow (v:Value) (p:Option Nat) (n cap:Nat):Prop:=v = rowVal p n cap ∨ (p = none ∧ n = 0 ∧ cap = 0 ∧ ∃ q,v = .slice q 0 0)
abbrev Env:=Nat → Option Ref
def NB:Env:=fun _=>none
mutual
inductive Rep (F:Fz) (w:World):Env → D → Value → Prop
 | val {B} (v:Value) (hv:flatV v = true):Rep F w B (.val v) v
 | str {B} (l:List UInt8):Rep F w B (.str l) (.string ⟨l.toArray⟩)
 | own {B} (i off b:Nat) (h:B i = some (.box b)):Rep F w B (.own i off) (.pointer (some ⟨b,off,none⟩))
 | opt {B} (i b:Nat) (v:Value) (h:B i = some (.box b)) (hv:v = .pointer none ∨ v = .pointer (some ⟨b,0,none⟩)):Rep F w B (.opt i) v
 | mp {B} (i b:Nat) (h:B i = some (.map b)):Rep F w B (.mp i) (.map (some b))
 | srow {B} (k:Nat) (p:Option Nat) (n cap:Nat) (h:B k = some (.row p n cap)):Rep F w B (.srow k) (rowVal p n cap)
 | agg {B} (ds:List D) (vs:List Value) (h:RepL F w B ds vs):Rep F w B (.agg ds) (.agg vs.toArray)
 | tup {B} (ds:List D) (vs:List Value) (h:RepL F w B ds vs):Rep F w B (.tup ds) (.tuple vs.toArray)
 | recsNil {B} {α:Type} (d:α) (enc:α → List D) (p:Option Addr):Rep F w B (.recs d enc []) (.slice p 0 0)
 | recs {B} {α:Type} (d:α) (enc:α → List D) (l:List α) (g off cap size:Nat) (vs:Nat → List Value) (hz:size = (enc d).length)
   (h1:∀ i,i < l.length → (vs i).length = size)
   (h2:∀ i,i < l.length → RepL F w NB (enc (l[i]?.getD d)) (vs i))
   (h3:∀ i j,i < l.length → j < size → F g (off + i * size + j) ∧ w.cell? ⟨g,off + i * size + j,none⟩ = (vs i)[j]?)
   (hc:l.length ≤ cap):Rep F w B (.recs d enc l) (.slice (some ⟨g,off,none⟩) l.length cap)
 | el {B} (ds:List D) (vs:List Value) (g off:Nat) (h:RepL F w NB ds vs)
   (h2:∀ j,j < vs.length → F g (off + j) ∧ w.cell? ⟨g,off + j,none⟩ = vs[j]?):Rep F w B (.el ds) (.pointer (some ⟨g,off,none⟩))
 | fn {B} (f:Nat) (ds:List D) (vs:List Value) (h:RepL F w B ds vs):Rep F w B (.fn f ds) (.func (.func f) #[] vs.toArray)
 | row {B} (k:Nat) (p:Option Nat) (n cap:Nat) (h:B k = some (.row p n cap)):Rep F w B (.row k) (rowVal p n cap)
 | rowNil {B} (k:Nat) (q:Option Addr) (h:B k = some (.row none 0 0)):Rep F w B (.row k) (.slice q 0 0)
 | elm {B} (k:Nat) (n:Int) (z off b nn cap:Nat) (h:B k = some (.row (some b) nn cap)):Rep F w B (.elm k n z off) (.pointer (some ⟨b,n.toNat * z + off,none⟩))
 | tree {B} {α:Type} (d:α) (pre:α → List D) (kids:α → List α) (l:List α) (v:Value) (h:Rep F w B (.recs d (treeEnc d pre kids) l) v):Rep F w B (.tree d pre kids l) v
 | arr {B} {α:Type} (d:α) (enc:α → List D) (l:List α) (vs:List Value) (hg:0 < (enc d).length ∧ ∀ x,(enc x).length = (enc d).length ∧ (enc x).all D.flat = true) (h:RepL F w NB (l.flatMap enc) vs):Rep F w B (.arr d enc l) (.agg vs.toArray)
 | hole {B} (v:Value) (hv:flatV v = true):Rep F w B .hole v
inductive RepL (F:Fz) (w:World):Env → List D → List Value → Prop
 | nil {B}:RepL F w B [] []
 | cons {B} (d:D) (v:Value) (ds:List D) (vs:List Value) (h:Rep F w B d v) (hs:RepL F w B ds vs):RepL F w B (d :: ds) (v :: vs)
end
theorem Rep.row_of {F:Fz} {w:World} {B:Env} {k:Nat} {p:Option Nat} {n cap:Nat} {v:Value} (h:B k = some (.row p n cap)) (hv:IsRow v p n cap):Rep F w B (.row k) v:=by
 rcases hv with rfl | ⟨rfl,rfl,rfl,q,rfl⟩
 ·exact .row k p n cap h
 ·exact .rowNil k q h
structure Grow (F F':Fz) (w w':World):Prop where
 frz:∀ g k,F g k → F' g k
 cell:∀ g k,F g k → w'.cell? ⟨g,k,none⟩ = w.cell? ⟨g,k,none⟩
theorem Grow.refl (F:Fz) (w:World):Grow F F w w:=⟨fun _ _ h=>h,fun _ _ _=>rfl⟩
mutual
theorem Rep.grow {F F':Fz} {w w':World} (g:Grow F F' w w'):∀ {B d v},Rep F w B d v → Rep F' w' B d v
 | _,_,_,.val v hv=>.val v hv
 | _,_,_,.str l=>.str l
 | _,_,_,.own i off b h=>.own i off b h
 | _,_,_,.opt i b v h hv=>.opt i b v h hv
 | _,_,_,.srow k p n cap h=>.srow k p n cap h
 | _,_,_,.mp i b h=>.mp i b h
 | _,_,_,.agg ds vs h=>.agg ds vs (RepL.grow g h)
 | _,_,_,.tup ds vs h=>.tup ds vs (RepL.grow g h)
 | _,_,_,.recsNil d enc p=>.recsNil d enc p
 | _,_,_,.recs d enc l gb off cap size vs hz h1 h2 h3 hc =>
  .recs d enc l gb off cap size vs hz h1 (fun i hi=>RepL.grow g (h2 i hi))
   (fun i j hi hj=>⟨g.frz _ _ (h3 i j hi hj).1,(g.cell _ _ (h3 i j hi hj).1).trans (h3 i j hi hj).2⟩) hc
 | _,_,_,.el ds vs gb off h h2=>.el ds vs gb off (RepL.grow g h) (fun j hj=>⟨g.frz _ _ (h2 j hj).1,(g.cell _ _ (h2 j hj).1).trans (h2 j hj).2⟩)
 | _,_,_,.fn f ds vs h=>.fn f ds vs (RepL.grow g h)
 | _,_,_,.row k p n cap h=>.row k p n cap h
 | _,_,_,.rowNil k q h=>.rowNil k q h
 | _,_,_,.elm k n z off b nn cap h=>.elm k n z off b nn cap h
 | _,_,_,.tree d pre kids l v h=>.tree d pre kids l v (Rep.grow g h)
 | _,_,_,.arr d enc l vs hg h=>.arr d enc l vs hg (RepL.grow g h)
 | _,_,_,.hole v hv=>.hole v hv
theorem RepL.grow {F F':Fz} {w w':World} (g:Grow F F' w w'):∀ {B ds vs},RepL F w B ds vs → RepL F' w' B ds vs
 | _,_,_,.nil=>.nil
 | _,_,_,.cons d v ds vs h hs=>.cons d v ds vs (Rep.grow g h) (RepL.grow g hs)
end
mutual
theorem Rep.rebox {F:Fz} {w:World} {B B':Env} (k:Nat) (hB:∀ i,i ≠ k → B' i = B i):∀ {d v},Rep F w B d v → D.names k d = false → Rep F w B' d v
 | _,_,.val v hv,_=>.val v hv
 | _,_,.str l,_=>.str l
 | _,_,.own i off b h,hn=>.own i off b (by
   rw [hB i (by intro e; subst e; simp [D.names] at hn)]; exact h)
 | _,_,.opt i b v h hv,hn=>.opt i b v (by
   rw [hB i (by intro e; subst e; simp [D.names] at hn)]; exact h) hv
 | _,_,.mp i b h,hn=>.mp i b (by
   rw [hB i (by intro e; subst e; simp [D.names] at hn)]; exact h)
 | _,_,.srow j p n cap h,hn=>.srow j p n cap (by
   rw [hB j (by intro e; subst e; simp [D.names] at hn)]; exact h)
 | _,_,.agg ds vs h,hn=>.agg ds vs (RepL.rebox k hB h hn)
 | _,_,.tup ds vs h,hn=>.tup ds vs (RepL.rebox k hB h hn)
 | _,_,.recsNil d enc p,_=>.recsNil d enc p
 | _,_,.recs d enc l gb off cap size vs hz h1 h2 h3 hc,_=>.recs d enc l gb off cap size vs hz h1 h2 h3 hc
 | _,_,.el ds vs gb off h h2,_=>.el ds vs gb off h h2
 | _,_,.fn f ds vs h,hn=>.fn f ds vs (RepL.rebox k hB h hn)
 | _,_,.row j p n cap h,hn=>.row j p n cap (by
   rw [hB j (by intro e; subst e; simp [D.names] at hn)]; exact h)
 | _,_,.rowNil j q h,hn=>.rowNil j q (by
   rw [hB j (by intro e; subst e; simp [D.names] at hn)]; exact h)
 | _,_,.elm j n z off b nn cap h,hn=>.elm j n z off b nn cap (by
   rw [hB j (by intro e; subst e; simp [D.names] at hn)]; exact h)
 | _,_,.tree d pre kids l v h,_=>.tree d pre kids l v (Rep.rebox k hB h rfl)
 | _,_,.arr d enc l vs hg h,_=>.arr d enc l vs hg h
 | _,_,.hole v hv,_=>.hole v hv
theorem RepL.rebox {F:Fz} {w:World} {B B':Env} (k:Nat) (hB:∀ i,i ≠ k → B' i = B i):∀ {ds vs},RepL F w B ds vs → D.namess k ds = false → RepL F w B' ds vs
 | _,_,.nil,_=>.nil
 | _,_,.cons d v ds vs h hs,hn=>by
  have hn':D.names k d = false ∧ D.namess k ds = false:=by simpa [D.namess] using hn
  exact .cons d v ds vs (Rep.rebox k hB h hn'.1) (RepL.rebox k hB hs hn'.2)
end
mutual
theorem Rep.bare {F:Fz} {w:World} {B B':Env}:∀ {d v},Rep F w B d v → D.noOwn d = true → Rep F w B' d v
 | _,_,.val v hv,_=>.val v hv
 | _,_,.str l,_=>.str l
 | _,_,.own i off b h,hn=>by simp [D.noOwn] at hn
 | _,_,.opt i b v h hv,hn=>by simp [D.noOwn] at hn
 | _,_,.srow j p n cap h,hn=>by simp [D.noOwn] at hn
 | _,_,.mp i b h,hn=>by simp [D.noOwn] at hn
 | _,_,.agg ds vs h,hn=>.agg ds vs (RepL.bare h hn)
 | _,_,.tup ds vs h,hn=>.tup ds vs (RepL.bare h hn)
 | _,_,.recsNil d enc p,_=>.recsNil d enc p
 | _,_,.recs d enc l gb off cap size vs hz h1 h2 h3 hc,_=>.recs d enc l gb off cap size vs hz h1 h2 h3 hc
 | _,_,.el ds vs gb off h h2,_=>.el ds vs gb off h h2
 | _,_,.fn f ds vs h,hn=>.fn f ds vs (RepL.bare h hn)
 | _,_,.row j p n cap h,hn=>by simp [D.noOwn] at hn
 | _,_,.rowNil j q h,hn=>by simp [D.noOwn] at hn
 | _,_,.elm j n z off b nn cap h,hn=>by simp [D.noOwn] at hn
 | _,_,.tree d pre kids l v h,_=>.tree d pre kids l v (Rep.bare h rfl)
 | _,_,.arr d enc l vs hg h,_=>.arr d enc l vs hg h
 | _,_,.hole v hv,_=>.hole v hv
theorem RepL.bare {F:Fz} {w:World} {B B':Env}:∀ {ds vs},RepL F w B ds vs → D.noOwns ds = true → RepL F w B' ds vs
 | _,_,.nil,_=>.nil
 | _,_,.cons d v ds vs h hs,hn=>by
  have hn':D.noOwn d = true ∧ D.noOwns ds = true:=by simpa [D.noOwns] using hn
  exact .cons d v ds vs (Rep.bare h hn'.1) (RepL.bare hs hn'.2)
end
mutual
theorem Rep.extB {F:Fz} {w:World} {B B':Env} (hB:∀ i b,B i = some b → B' i = some b):∀ {d v},Rep F w B d v → Rep F w B' d v
 | _,_,.val v hv=>.val v hv
 | _,_,.str l=>.str l
 | _,_,.own i off b h=>.own i off b (hB _ _ h)
 | _,_,.opt i b v h hv=>.opt i b v (hB _ _ h) hv
 | _,_,.srow j p n cap h=>.srow j p n cap (hB _ _ h)
 | _,_,.mp i b h=>.mp i b (hB _ _ h)
 | _,_,.agg ds vs h=>.agg ds vs (RepL.extB hB h)
 | _,_,.tup ds vs h=>.tup ds vs (RepL.extB hB h)
 | _,_,.recsNil d enc p=>.recsNil d enc p
 | _,_,.recs d enc l gb off cap size vs hz h1 h2 h3 hc=>.recs d enc l gb off cap size vs hz h1 h2 h3 hc
 | _,_,.el ds vs gb off h h2=>.el ds vs gb off h h2
 | _,_,.fn f ds vs h=>.fn f ds vs (RepL.extB hB h)
 | _,_,.row j p n cap h=>.row j p n cap (hB _ _ h)
 | _,_,.rowNil j q h=>.rowNil j q (hB _ _ h)
 | _,_,.elm j n z off b nn cap h=>.elm j n z off b nn cap (hB _ _ h)
 | _,_,.tree d pre kids l v h=>.tree d pre kids l v (Rep.extB hB h)
 | _,_,.arr d enc l vs hg h=>.arr d enc l vs hg h
 | _,_,.hole v hv=>.hole v hv
theorem RepL.extB {F:Fz} {w:World} {B B':Env} (hB:∀ i b,B i = some b → B' i = some b):∀ {ds vs},RepL F w B ds vs → RepL F w B' ds vs
 | _,_,.nil=>.nil
 | _,_,.cons d v ds vs h hs=>.cons d v ds vs (Rep.extB hB h) (RepL.extB hB hs)
end
mutual
theorem Rep.lift {F:Fz} {w:World} {B B':Env} (hB:∀ i,B i = none):∀ {d v},Rep F w B d v → Rep F w B' d v
 | _,_,.val v hv=>.val v hv
 | _,_,.str l=>.str l
 | _,_,.own i off b h=>by rw [hB] at h; cases h
 | _,_,.opt i b v h hv=>by rw [hB] at h; cases h
 | _,_,.srow j p n cap h=>by rw [hB] at h; cases h
 | _,_,.mp i b h=>by rw [hB] at h; cases h
 | _,_,.agg ds vs h=>.agg ds vs (RepL.lift hB h)
 | _,_,.tup ds vs h=>.tup ds vs (RepL.lift hB h)
 | _,_,.recsNil d enc p=>.recsNil d enc p
 | _,_,.recs d enc l gb off cap size vs hz h1 h2 h3 hc=>.recs d enc l gb off cap size vs hz h1 h2 h3 hc
 | _,_,.el ds vs gb off h h2=>.el ds vs gb off h h2
 | _,_,.fn f ds vs h=>.fn f ds vs (RepL.lift hB h)
 | _,_,.row j p n cap h=>by rw [hB] at h; cases h
 | _,_,.rowNil j q h=>by rw [hB] at h; cases h
 | _,_,.elm j n z off b nn cap h=>by rw [hB] at h; cases h
 | _,_,.tree d pre kids l v h=>.tree d pre kids l v (Rep.lift hB h)
 | _,_,.arr d enc l vs hg h=>.arr d enc l vs hg h
 | _,_,.hole v hv=>.hole v hv
theorem RepL.lift {F:Fz} {w:World} {B B':Env} (hB:∀ i,B i = none):∀ {ds vs},RepL F w B ds vs → RepL F w B' ds vs
 | _,_,.nil=>.nil
 | _,_,.cons d v ds vs h hs=>.cons d v ds vs (Rep.lift hB h) (RepL.lift hB hs)
end
theorem RepL.length {F:Fz} {w:World}:∀ {B ds vs},RepL F w B ds vs → vs.length = ds.length
 | _,_,_,.nil=>rfl
 | _,_,_,.cons _ _ _ _ _ hs=>by simp [RepL.length hs]
theorem RepL.get {F:Fz} {w:World} {B}:∀ {ds vs} (i:Nat) {d:D},RepL F w B ds vs → ds[i]? = some d → ∃ v,vs[i]? = some v ∧ Rep F w B d v
 | _,_,i,d,.nil,h=>by simp at h
 | _,_,0,d,.cons d' v ds vs h hs,he=>by simp at he; subst he; exact ⟨v,rfl,h⟩
 | _,_,i + 1,d,.cons d' v ds vs h hs,he=>by
  have:=RepL.get i hs (by simpa using he)
  simpa using this
theorem RepL.append {F:Fz} {w:World} {B}:∀ {ds vs ds' vs'},RepL F w B ds vs → RepL F w B ds' vs' → RepL F w B (ds ++ ds') (vs ++ vs')
 | _,_,_,_,.nil,h=>h
 | _,_,_,_,.cons d v ds vs h hs,h'=>.cons d v _ _ h (RepL.append hs h')
theorem RepL.drop {F:Fz} {w:World} {B}:∀ (n:Nat) {ds vs},RepL F w B ds vs → RepL F w B (ds.drop n) (vs.drop n)
 | 0,_,_,h=>h
 | _ + 1,_,_,.nil=>.nil
 | n + 1,_,_,.cons d v ds vs h hs=>RepL.drop n hs
theorem RepL.take {F:Fz} {w:World} {B}:∀ (n:Nat) {ds vs},RepL F w B ds vs → RepL F w B (ds.take n) (vs.take n)
 | 0,_,_,_=>.nil
 | _ + 1,_,_,.nil=>.nil
 | n + 1,_,_,.cons d v ds vs h hs=>.cons d v _ _ h (RepL.take n hs)
theorem RepL.set {F:Fz} {w:World} {B} {d:D} {v:Value} (hd:Rep F w B d v):∀ (i:Nat) {ds vs},RepL F w B ds vs → RepL F w B (ds.set i d) (vs.set i v)
 | _,_,_,.nil=>.nil
 | 0,_,_,.cons d' v' ds vs h hs=>.cons d v _ _ hd hs
 | i + 1,_,_,.cons d' v' ds vs h hs=>.cons d' v' _ _ h (RepL.set hd i hs)
def setVals (vs:List Value) (off:Nat) (us:List Value):List Value:=vs.take off ++ us ++ vs.drop (off + us.length)
theorem RepL.sets {F:Fz} {w:World} {B} {cs us} (h:RepL F w B cs us) (off:Nat) {ds vs} (hs:RepL F w B ds vs):RepL F w B (setCells ds off cs) (setVals vs off us):=by
 unfold setCells setVals
 rw [RepL.length h]
 exact ((hs.take off).append h).append (hs.drop _)
theorem Rep.cells {F:Fz} {w:World} {B d v} (h:Rep F w B d v):RepL F w B d.cells v.cells.toList:=by
 cases h with
 | val v hv =>
  have hc:v.cells.toList = [v]:=by cases v <;> first | rfl | (simp [flatV] at hv)
  rw [hc]; exact .cons _ _ _ _ (.val _ hv) .nil
 | agg ds vs h=>simpa [D.cells,Value.cells] using h
 | arr d enc l vs hg h=>exact (RepL.lift (fun _=>rfl) h)
 | tup ds vs h=>exact .cons _ _ _ _ (.tup ds vs h) .nil
 | str l=>exact .cons _ _ _ _ (.str l) .nil
 | own i off b h=>exact .cons _ _ _ _ (.own i off b h) .nil
 | opt i b v h hv =>
  have hc:v.cells.toList = [v]:=by rcases hv with rfl | rfl <;> rfl
  rw [hc]; exact .cons _ _ _ _ (.opt i b v h hv) .nil
 | srow k p n cap h=>exact .cons _ _ _ _ (.srow k p n cap h) .nil
 | mp i b h=>exact .cons _ _ _ _ (.mp i b h) .nil
 | recsNil d enc p=>exact .cons _ _ _ _ (.recsNil d enc p) .nil
 | recs d enc l gb off cap size vs hz h1 h2 h3 hc=>exact .cons _ _ _ _ (.recs d enc l gb off cap size vs hz h1 h2 h3 hc) .nil
 | el ds vs gb off h h2=>exact .cons _ _ _ _ (.el ds vs gb off h h2) .nil
 | fn f ds vs h=>exact .cons _ _ _ _ (.fn f ds vs h) .nil
 | row k p n cap h=>exact .cons _ _ _ _ (.row k p n cap h) .nil
 | rowNil k q h=>exact .cons _ _ _ _ (.rowNil k q h) .nil
 | elm k n z off b nn cap h=>exact .cons _ _ _ _ (.elm k n z off b nn cap h) .nil
 | tree d pre kids l v h=>cases h with
  | recsNil _ _ p=>exact .cons _ _ _ _ (.tree d pre kids [] _ (.recsNil _ _ p)) .nil
  | recs _ _ _ gb off cap size vs hz h1 h2 h3 hc=>exact .cons _ _ _ _ (.tree d pre kids l _ (.recs _ _ l gb off cap size vs hz h1 h2 h3 hc)) .nil
 | hole v hv =>
  have hc:v.cells.toList = [v]:=by cases v <;> first | rfl | (simp [flatV] at hv)
  rw [hc]; exact .cons _ _ _ _ (.hole _ hv) .nil
theorem Rep.one {F:Fz} {w:World} {B d v} (h:Rep F w B d v) (hf:d.flat = true):flatV v = true:=by
 cases h <;> first | assumption | rfl | (simp [D.flat] at hf; done) | (rename_i h; cases h <;> rfl) | (rename_i hv; rcases hv with rfl | rfl <;> rfl)
theorem Rep.ofValue {F:Fz} {w:World} {B} (v:Value) (hv:flatV v = true):Rep F w B (ofValue v) v:=by
 unfold RX.ofValue
 split
 ·rename_i s
  have:Value.string s = .string ⟨s.data.toList.toArray⟩:=by cases s; simp
  rw [this]; exact .str _
 ·exact .val v hv
theorem Rep.opn {F:Fz} {w:World} {B d v} (h:Rep F w B d v):Rep F w B d.opn v:=by
 cases h <;> first | assumption | (constructor <;> assumption) | skip
structure SubOK (F:Fz) (w:World) (B B':Env) (s:D → Option D):Prop where
 got:∀ d r v,s d = some r → Rep F w B d v → Rep F w B' r v
 own:∀ k off,s (.own k off) = none → B' k = B k
 row:∀ k,s (.row k) = none → B' k = B k
 opt:∀ k,s (.opt k) = none → B' k = B k
 srow:∀ k,s (.srow k) = none → B' k = B k
 elm:∀ k n z off,s (.elm k n z off) = none → B' k = B k
 mp:∀ k,s (.mp k) = none → B' k = B k
mutual
theorem Rep.sub {F:Fz} {w:World} {B B':Env} {s:D → Option D} (hs:SubOK F w B B' s):∀ {d v},Rep F w B d v → Rep F w B' (D.sub s d) v
 | _,_,.val v hv=>.val v hv
 | _,_,.str l=>.str l
 | _,_,.own i off b h=>by
  unfold D.sub
  cases he:s (.own i off) with
  | none=>exact .own i off b (by rw [hs.own i off he]; exact h)
  | some r=>exact hs.got _ _ _ he (.own i off b h)
 | _,_,.opt i b v h hv=>by
  unfold D.sub
  cases he:s (.opt i) with
  | none=>exact .opt i b v (by rw [hs.opt i he]; exact h) hv
  | some r=>exact hs.got _ _ _ he (.opt i b v h hv)
 | _,_,.mp i b h=>by
  unfold D.sub
  cases he:s (.mp i) with
  | none=>exact .mp i b (by rw [hs.mp i he]; exact h)
  | some r=>exact hs.got _ _ _ he (.mp i b h)
 | _,_,.srow j p n cap h=>by
  unfold D.sub
  cases he:s (.srow j) with
  | none=>exact .srow j p n cap (by rw [hs.srow j he]; exact h)
  | some r=>exact hs.got _ _ _ he (.srow j p n cap h)
 | _,_,.agg ds vs h=>.agg _ vs (RepL.sub hs h)
 | _,_,.tup ds vs h=>.tup _ vs (RepL.sub hs h)
 | _,_,.recsNil d enc p=>.recsNil d enc p
 | _,_,.recs d enc l gb off cap size vs hz h1 h2 h3 hc=>.recs d enc l gb off cap size vs hz h1 h2 h3 hc
 | _,_,.el ds vs gb off h h2=>.el ds vs gb off h h2
 | _,_,.fn f ds vs h=>.fn f _ vs (RepL.sub hs h)
 | _,_,.row j p n cap h=>by
  unfold D.sub
  cases he:s (.row j) with
  | none=>exact .row j p n cap (by rw [hs.row j he]; exact h)
  | some r=>exact hs.got _ _ _ he (.row j p n cap h)
 | _,_,.rowNil j q h=>by
  unfold D.sub
  cases he:s (.row j) with
  | none=>exact .rowNil j q (by rw [hs.row j he]; exact h)
  | some r=>exact hs.got _ _ _ he (.rowNil j q h)
 | _,_,.elm j n z off b nn cap h=>by
  unfold D.sub
  cases he:s (.elm j n z off) with
  | none=>exact .elm j n z off b nn cap (by rw [hs.elm j n z off he]; exact h)
  | some r=>exact hs.got _ _ _ he (.elm j n z off b nn cap h)
 | _,_,.tree d pre kids l v h=>.tree d pre kids l v (Rep.sub hs h)
 | _,_,.arr d enc l vs hg h=>.arr d enc l vs hg h
 | _,_,.hole v hv=>.hole v hv
theorem RepL.sub {F:Fz} {w:World} {B B':Env} {s:D → Option D} (hs:SubOK F w B B' s):∀ {ds vs},RepL F w B ds vs → RepL F w B' (D.subs s ds) vs
 | _,_,.nil=>.nil
 | _,_,.cons d v ds vs h hr=>.cons _ v _ vs (Rep.sub hs h) (RepL.sub hs hr)
end
theorem sub_val {s:D → Option D} (hs:∀ d v,s d ≠ some (.val v)) {d:D} {v:Value} (h:D.sub s d = .val v):d = .val v:=by
 cases d <;> simp only [D.sub] at h <;> first | exact h | (cases h; done) | skip
 all_goals
  rename_i x
  revert h
 ·cases he:s (.own _ _) with
  | none=>intro h; cases h
  | some r=>intro h; simp at h; exact absurd (h ▸ he) (hs _ _)
 ·cases he:s (.opt _) with
  | none=>intro h; cases h
  | some r=>intro h; simp at h; exact absurd (h ▸ he) (hs _ _)
 ·cases he:s (.srow _) with
  | none=>intro h; cases h
  | some r=>intro h; simp at h; exact absurd (h ▸ he) (hs _ _)
 ·cases he:s (.mp _) with
  | none=>intro h; cases h
  | some r=>intro h; simp at h; exact absurd (h ▸ he) (hs _ _)
 ·cases he:s (.row _) with
  | none=>intro h; cases h
  | some r=>intro h; simp at h; exact absurd (h ▸ he) (hs _ _)
 ·cases he:s (.elm _ _ _ _) with
  | none=>intro h; cases h
  | some r=>intro h; simp at h; exact absurd (h ▸ he) (hs _ _)
theorem subs_length (s:D → Option D):∀ ds:List D,(D.subs s ds).length = ds.length
 | []=>rfl
 | d :: ds=>by simp [D.subs,subs_length s ds]
theorem sub_flat {s:D → Option D} (hs:∀ d r,s d = some r → r.flat = true):∀ {d:D},d.flat = true → (D.sub s d).flat = true
 | .own _ _,_=>by unfold D.sub; cases he:s (.own _ _) with | none=>rfl | some r=>exact hs _ _ he
 | .opt _,_=>by unfold D.sub; cases he:s (.opt _) with | none=>rfl | some r=>exact hs _ _ he
 | .srow _,_=>by unfold D.sub; cases he:s (.srow _) with | none=>rfl | some r=>exact hs _ _ he
 | .mp _,_=>by unfold D.sub; cases he:s (.mp _) with | none=>rfl | some r=>exact hs _ _ he
 | .row _,_=>by unfold D.sub; cases he:s (.row _) with | none=>rfl | some r=>exact hs _ _ he
 | .elm _ _ _ _,_=>by unfold D.sub; cases he:s (.elm _ _ _ _) with | none=>rfl | some r=>exact hs _ _ he
 | .val _,h=>h
 | .str _,h=>h
 | .recs _ _ _,h=>h
 | .tree _ _ _ _,h=>h
 | .el _,h=>h
 | .fn _ _,_=>rfl
 | .hole,h=>h
 | .agg _,h=>by cases h
 | .arr _ _ _,h=>by cases h
 | .tup _,h=>by cases h
 | .rowc _ _ _ _,h=>by cases h
 | .mapc _ _ _ _ _,h=>by cases h
 | .objc _ _ _,h=>by cases h
theorem subs_flat {s:D → Option D} (hs:∀ d r,s d = some r → r.flat = true):∀ {ds:List D},ds.all D.flat = true → (D.subs s ds).all D.flat = true
 | [],_=>rfl
 | d :: ds,h=>by
  simp only [List.all_cons,Bool.and_eq_true] at h
  simp only [D.subs,List.all_cons,Bool.and_eq_true]
  exact ⟨sub_flat hs h.1,subs_flat hs h.2⟩
def OwnRow (w:World) (e size:Nat) (p:Option Nat) (n cap:Nat) (xs:List Value):Prop :=
 xs.length = n * size ∧ ((p = none ∧ n = 0 ∧ cap = 0) ∨
  ∃ g cur fz,p = some g ∧ w.heap[g]? = some (.cells cur e fz) ∧ (∀ j,j < cur.size → ¬ (fz.1 ≤ j ∧ j < fz.2)) ∧ n ≤ cap ∧ cap ≤ maxLen ∧ cur.size = cap * size ∧ cur.toList.take (n * size) = xs)
theorem OwnRow.cells {w:World} {e size g n cap:Nat} {xs:List Value} (h:OwnRow w e size (some g) n cap xs) {j:Nat} {u:Value} (hu:xs[j]? = some u):w.cell? ⟨g,j,none⟩ = some u:=by
 rcases h.2 with ⟨h1,_⟩ | ⟨g',cur,fz,hp,hh,_,_,_,_,htk⟩
 ·cases h1
 ·cases hp
  rw [← htk,List.getElem?_take] at hu
  split at hu
  ·simpa [World.cell?,hh] using hu
  ·cases hu
def RowOK (F:Fz) (w:World) (p:Option Nat) (n cap:Nat) (e:Nat) (m:Bool) {α:Type} (d:α) (enc:α → List D) (l:List α):Prop :=
 n = l.length ∧ 0 < (enc d).length ∧ (∀ x,(enc x).length = (enc d).length ∧ (enc x).all D.flat = true) ∧
 ∃ xs,RepL F w NB (l.flatMap enc) xs ∧ OwnRow w e (enc d).length p n cap xs ∧ ∀ b,p = some b → ∀ j,F b j ↔ (m = true ∧ j < n * (enc d).length)
theorem RepL.flatMap_get {F:Fz} {w:World} {B} {α:Type} {enc:α → List D} {z:Nat} (hz:∀ x,(enc x).length = z):∀ (l:List α) (xs:List Value),RepL F w B (l.flatMap enc) xs → ∀ (i:Nat) (x:α),l[i]? = some x → RepL F w B (enc x) ((xs.drop (i * z)).take z)
 | [],xs,_,i,x,hi=>by simp at hi
 | y :: l,xs,h,i,x,hi=>by
  have hl:=RepL.length h
  simp only [List.flatMap_cons] at h
  have h1:RepL F w B (enc y) (xs.take z):=by
   have:=h.take z
   rwa [List.take_left' (hz y)] at this
  have h2:RepL F w B (l.flatMap enc) (xs.drop z):=by
   have:=h.drop z
   rwa [List.drop_left' (hz y)] at this
  cases i with
  | zero =>
   simp only [List.getElem?_cons_zero,Option.some.injEq] at hi
   subst hi
   simpa using h1
  | succ i =>
   have:=RepL.flatMap_get hz l _ h2 i x (by simpa using hi)
   rw [List.drop_drop] at this
   rwa [show (i + 1) * z = z + i * z by rw [Nat.add_mul]; omega]
theorem flatMap_length {α:Type} {enc:α → List D} {z:Nat} (hz:∀ x,(enc x).length = z):∀ l:List α,(l.flatMap enc).length = l.length * z
 | []=>by simp
 | x :: l=>by simp only [List.flatMap_cons,List.length_append,hz,flatMap_length hz l,List.length_cons,Nat.add_mul]; omega
theorem RowOK.grow {F F':Fz} {w w':World} {p n cap e m} {α:Type} {d:α} {enc:α → List D} {l:List α} (h:RowOK F w p n cap e m d enc l) (g:Grow F F' w w') (hb:∀ b,p = some b → w'.heap[b]? = w.heap[b]? ∧ ∀ j,F' b j → F b j):RowOK F' w' p n cap e m d enc l:=by
 obtain ⟨h1,h2,h3,xs,h4,h5,h6⟩:=h
 refine ⟨h1,h2,h3,xs,h4.grow g,⟨h5.1,?_⟩,fun b hp j=>?_⟩
 ·rcases h5.2 with h | ⟨gb,cur,fz,hp,hh,hr⟩
  ·exact .inl h
  ·refine .inr ⟨gb,cur,fz,hp,?_,hr⟩
   rw [(hb gb hp).1]; exact hh
 ·rw [← h6 b hp j]
  exact ⟨(hb b hp).2 j,g.frz b j⟩
theorem RowOK.recs {F:Fz} {w:World} {B:Env} {p n cap e} {α:Type} {d:α} {enc:α → List D} {l:List α} (h:RowOK F w p n cap e true d enc l):Rep F w B (.recs d enc l) (rowVal p n cap):=by
 obtain ⟨rfl,h2,h3,xs,h4,h5,h6⟩:=h
 rcases h5.2 with ⟨hp,hn,hc⟩ | ⟨g,cur,fz,hp,hh,hfz,hnc,hcm,hsz,htk⟩
 ·have:l = []:=List.eq_nil_of_length_eq_zero hn
  subst this; subst hp; subst hc
  exact .recsNil d enc none
 ·subst hp
  have hlen:=h5.1
  refine .recs d enc l g 0 cap (enc d).length (fun i=>(xs.drop (i * (enc d).length)).take (enc d).length) rfl (fun i hi=>?_) (fun i hi=>?_) (fun i j hi hj=>?_) hnc
  ·have:i * (enc d).length + (enc d).length ≤ l.length * (enc d).length:=by
    rw [← Nat.succ_mul]; exact Nat.mul_le_mul_right _ hi
   simp; omega
  ·have hx:=List.getElem?_eq_getElem hi
   rw [hx]
   exact RepL.flatMap_get (fun x=>(h3 x).1) l xs h4 i _ hx
  ·have hle:i * (enc d).length + (enc d).length ≤ l.length * (enc d).length:=by
    rw [← Nat.succ_mul]; exact Nat.mul_le_mul_right _ hi
   refine ⟨(h6 g rfl _).2 ⟨rfl,by omega⟩,?_⟩
   have hj2:i * (enc d).length + j < xs.length:=by omega
   have h7:=h5.cells (List.getElem?_eq_getElem hj2)
   rw [Nat.zero_add,h7,List.getElem?_take,if_pos hj,List.getElem?_drop,List.getElem?_eq_getElem hj2]
theorem RowOK.recsV {F:Fz} {w:World} {B:Env} {p n cap e} {α:Type} {d:α} {enc:α → List D} {l:List α} {v:Value} (h:RowOK F w p n cap e true d enc l) (hv:IsRow v p n cap):Rep F w B (.recs d enc l) v:=by
 rcases hv with rfl | ⟨rfl,rfl,rfl,q,rfl⟩
 ·exact h.recs
 ·have:l = []:=List.eq_nil_of_length_eq_zero h.1.symm
  subst this
  exact .recsNil d enc q
def MK.val (kk:Option IntKind):MK → Value
 | .inl s=>.string ⟨s.toArray⟩
 | .inr n=>.int (kk.getD .i64) n
def MK.ok (kk:Option IntKind):MK → Prop
 | .inl _=>kk = none
 | .inr _=>kk ≠ none
def ElemOK (F:Fz) (w:World) (ag:Bool) (ds:List D) (v:Value):Prop:=∃ d,elemD ag ds = some d ∧ Rep F w NB d v
inductive EntsOK (F:Fz) (w:World) (kk:Option IntKind) (ag:Bool) {α:Type} (enc:α → List D):List (MK × α) → List MapEntry → Prop
 | nil:EntsOK F w kk ag enc [] []
 | cons (x:MK) (v:α) (l:List (MK × α)) (e:MapEntry) (es:List MapEntry) (hk:e.key = x.val kk) (hx:x.ok kk) (hv:ElemOK F w ag (enc v) e.val) (hr:EntsOK F w kk ag enc l es):EntsOK F w kk ag enc ((x,v) :: l) (e :: es)
def MapOK (F:Fz) (w:World) (b:Nat) (kk:Option IntKind) (ag:Bool) {α:Type} (enc:α → List D) (l:List (MK × α)):Prop :=
 GoodM ag enc ∧ (∀ j,¬ F b j) ∧ ∃ es clock,w.heap[b]? = some (.map es clock) ∧ MapKept.Stamped es clock ∧ EntsOK F w kk ag enc l es.toList
theorem EntsOK.grow {F F':Fz} {w w':World} (g:Grow F F' w w') {kk:Option IntKind} {ag:Bool} {α:Type} {enc:α → List D}:∀ {l:List (MK × α)} {es:List MapEntry},EntsOK F w kk ag enc l es → EntsOK F' w' kk ag enc l es
 | _,_,.nil=>.nil
 | _,_,.cons x v l e es hk hx ⟨d,h1,h2⟩ hr=>.cons x v l e es hk hx ⟨d,h1,h2.grow g⟩ (EntsOK.grow g hr)
theorem EntsOK.length {F:Fz} {w:World} {kk:Option IntKind} {ag:Bool} {α:Type} {enc:α → List D}:∀ {l:List (MK × α)} {es:List MapEntry},EntsOK F w kk ag enc l es → es.length = l.length
 | _,_,.nil=>rfl
 | _,_,.cons _ _ _ _ _ _ _ _ hr=>by simp [EntsOK.length hr]
theorem MapOK.grow {F F':Fz} {w w':World} {b:Nat} {kk:Option IntKind} {ag:Bool} {α:Type} {enc:α → List D} {l:List (MK × α)} (h:MapOK F w b kk ag enc l) (g:Grow F F' w w') (hb:w'.heap[b]? = w.heap[b]? ∧ ∀ j,F' b j → F b j):MapOK F' w' b kk ag enc l:=by
 obtain ⟨h0,h1,es,clock,h2,hs,h3⟩:=h
 exact ⟨h0,fun j hj=>h1 j (hb.2 j hj),es,clock,by rw [hb.1]; exact h2,hs,h3.grow g⟩
mutual
theorem Weak.rep {F w B}:∀ {d e:D} {v:Value},Weak d e → Rep F w B d v → Rep F w B e v
 | _,_,_,.refl _,hr=>hr
 | _,_,_,.zero d enc,hr=>by cases hr; exact .recsNil d enc none
 | _,_,_,.agg h,hr=>by cases hr with | agg _ vs hr=>exact .agg _ _ (Weaks.rep h hr)
 | _,_,_,.arr h hg hn,hr=>by cases hr with | agg _ vs hr=>exact .arr _ _ _ vs hg (by rw [h]; exact hr.bare hn)
 | _,_,_,.tup h,hr=>by cases hr with | tup _ vs hr=>exact .tup _ _ (Weaks.rep h hr)
 | _,_,_,.el h,hr=>by cases hr with | el _ vs g off hr h2=>exact .el _ _ g off (Weaks.rep h hr) h2
 | _,_,_,.fn h,hr=>by cases hr with | fn _ _ vs hr=>exact .fn _ _ _ (Weaks.rep h hr)
 | _,_,_,.zeroT d pre kids,hr=>by cases hr; exact .tree d pre kids [] _ (.recsNil d _ none)
 | _,_,_,.opn d pre kids l,hr=>by cases hr with | tree _ _ _ _ _ h=>exact h
 | _,_,_,.close d pre kids l,hr=>.tree d pre kids l _ hr
theorem Weaks.rep {F w B}:∀ {ds es:List D} {vs:List Value},Weaks ds es → RepL F w B ds vs → RepL F w B es vs
 | _,_,_,.nil,hr=>hr
 | _,_,_,.cons h hs,hr=>by cases hr with | cons _ _ _ _ hr hrs=>exact .cons _ _ _ _ (Weak.rep h hr) (Weaks.rep hs hrs)
end
theorem Weak.flat {d e:D} (h:Weak d e) (hf:d.flat = true):e.flat = true:=by
 cases h with
 | refl=>exact hf
 | zero=>rfl
 | agg=>cases hf
 | arr=>cases hf
 | tup=>cases hf
 | el=>rfl
 | fn=>rfl
 | zeroT=>rfl
 | opn=>rfl
 | close=>rfl
theorem Weaks.flat:∀ {ds es:List D},Weaks ds es → ds.all D.flat = true → es.all D.flat = true
 | _,_,.nil,h=>h
 | _,_,.cons h hs,hf=>by
  simp only [List.all_cons,Bool.and_eq_true] at hf ⊢
  exact ⟨Weak.flat h hf.1,Weaks.flat hs hf.2⟩
theorem Weak.flatr {d e:D} (h:Weak d e) (hf:e.flat = true):d.flat = true:=by
 cases h with
 | refl=>exact hf
 | zero=>rfl
 | agg=>cases hf
 | arr=>cases hf
 | tup=>cases hf
 | el=>rfl
 | fn=>rfl
 | zeroT=>rfl
 | opn=>rfl
 | close=>rfl
theorem Weaks.flatr:∀ {ds es:List D},Weaks ds es → es.all D.flat = true → ds.all D.flat = true
 | _,_,.nil,h=>h
 | _,_,.cons h hs,hf=>by
  simp only [List.all_cons,Bool.and_eq_true] at hf ⊢
  exact ⟨Weak.flatr h hf.1,Weaks.flatr hs hf.2⟩
theorem Weaks.refl:∀ ds:List D,Weaks ds ds
 | []=>.nil
 | d :: ds=>.cons (.refl d) (Weaks.refl ds)
theorem Weaks.of_eq {ds es:List D} (h:ds = es):Weaks ds es:=h ▸ Weaks.refl ds
theorem Weaks.length:∀ {ds es:List D},Weaks ds es → ds.length = es.length
 | _,_,.nil=>rfl
 | _,_,.cons _ hs=>by rw [List.length_cons,List.length_cons,Weaks.length hs]
theorem Weaks.append:∀ {ds es ds' es':List D},Weaks ds es → Weaks ds' es' → Weaks (ds ++ ds') (es ++ es')
 | _,_,_,_,.nil,h=>h
 | _,_,_,_,.cons h hs,h'=>.cons h (Weaks.append hs h')
end Go.Proofs.YtibgdilkodjojaaGreatDoor.RX
