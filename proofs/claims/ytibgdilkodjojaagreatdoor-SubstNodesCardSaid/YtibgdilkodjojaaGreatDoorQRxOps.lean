import Derived.Test.YtibgdilkodjojaaGreatDoorQRxRep
import Derived.Laws.CopyRow
import Derived.ChangeKeysEq
set_option linter.all false
namespace Go.Proofs.YtibgdilkodjojaaGreatDoor.RX
open Go.RowKit
def aggDesc:TypeDesc → Bool
 | .struct _ | .array _ _=>true
 | _=>false
def szOf (P:Program) (t:Nat):Option (Nat × Bool) :=
 match P.info? t,P.underlying t with
 | some i,some d=>some (i.size,aggDesc d)
 | _,_=>none
def fieldsOf (P:Program):List Field → Option (List (Nat × Nat × Bool))
 | []=>some []
 | f :: fs=>match szOf P f.type,fieldsOf P fs with | some s,some r=>some ((f.offset,s.1,s.2) :: r) | _,_=>none
def keyKind (P:Program) (k:Nat):Option (Option IntKind):=match P.underlying k with | some .string=>some none | some (.int k)=>some (some k) | _=>none
def kindOf (P:Program):TypeDesc → TK
 | .string=>.str
 | .bool=>.bool
 | .int k=>.int k
 | .slice e=>match szOf P e with | some s=>.slice s.1 s.2 | none=>.other
 | .struct fs=>match fieldsOf P fs.toList with | some r=>.struct r | none=>.other
 | .array n e=>match szOf P e with | some s=>.array n s.1 s.2 | none=>.other
 | .map k e=>match keyKind P k,szOf P e with | some kk,some s=>.map kk s.1 s.2 | _,_=>.other
 | .pointer _=>.ptr
 | _=>.other
def mapZero (P:Program) (e:Nat):List Value :=
 match P.info? e,P.underlying e with
 | some i,some d =>
  match i.zero with
  | some (.agg vs)=>if aggDesc d && vs.toList.all flatV && vs.size == i.size then vs.toList else []
  | some v=>if !(aggDesc d) && flatV v && i.size == 1 then [v] else []
  | none=>[]
 | _,_=>[]
def elemTI (P:Program) (d:TypeDesc):Nat × Nat × List Value × Option IntKind :=
 match d with
 | .slice e=>(e,(match P.info? e with | some i=>i.bytes | none=>0),(match P.info? e with | some i=>(match i.zero with | some z=>if z.cells.toList.all flatV && z.cells.toList.length == i.size then z.cells.toList else [] | none=>[]) | none=>[]),(match P.underlying e with | some (.int k)=>some k | _=>none))
 | .map _ e=>(e,0,mapZero P e,none)
 | _=>(0,0,[],none)
def tiOf (P:Program) (t:Nat):Option TI :=
 match P.info? t,P.underlying t with
 | some i,some d =>
  match i.zero with
  | some z=>if z.cells.toList.all flatV && z.cells.toList.length == i.size then some { agg:=aggDesc d,size:=i.size,zero:=z.cells.toList,kind:=kindOf P d,elt:=(elemTI P d).1,eb:=(elemTI P d).2.1,ez:=(elemTI P d).2.2.1,ek:=(elemTI P d).2.2.2 } else none
  | none=>none
 | _,_=>none
def EqCells (P:Program) (t:Nat) (ks:List Nat):Prop:=∀ (F:Fz) (w w':World) (B B':Env) (ds es:List D) (vs us:List Value) (r:Bool),RepL F w B ds vs → RepL F w B' es us → cmpCells ks ds es = some r →
 (eqGuard .eql t (.tmp 0) (.tmp 0) (.agg vs.toArray) (.agg us.toArray)).run P w' = .ok () w' ∧ (Op.equal t (.agg vs.toArray) (.agg us.toArray)).run P w' = .ok r w'
def ΓOK (P:Program) (Γ:Nat → Option TI):Prop:=∀ t ti,Γ t = some ti → tiOf P t = some { ti with eqs:=[] } ∧ (ti.eqs ≠ [] → EqCells P t ti.eqs)
section
variable {P:Program}
theorem tiOf_spec {t:Nat} {ti:TI} (h:tiOf P t = some ti):∃ i d z,P.info? t = some i ∧ P.underlying t = some d ∧ i.zero = some z ∧ z.cells.toList = ti.zero ∧ ti.zero.all flatV = true ∧ ti.zero.length = ti.size ∧ i.size = ti.size ∧ aggDesc d = ti.agg ∧ kindOf P d = ti.kind:=by
 unfold tiOf at h
 split at h
 ·rename_i i d hi hd
  split at h
  ·rename_i z hz
   split at h
   ·rename_i hc
    simp only [Bool.and_eq_true,beq_iff_eq] at hc
    cases h
    exact ⟨i,d,z,hi,hd,hz,rfl,hc.1,hc.2,rfl,rfl,rfl⟩
   ·cases h
  ·cases h
 ·cases h
theorem tiOf_elem {t:Nat} {ti:TI} (h:tiOf P t = some ti) {d:TypeDesc} (hd:P.underlying t = some d):ti.elt = (elemTI P d).1 ∧ ti.eb = (elemTI P d).2.1 ∧ ti.ez = (elemTI P d).2.2.1 ∧ ti.ek = (elemTI P d).2.2.2:=by
 unfold tiOf at h
 rw [hd] at h
 split at h
 ·rename_i i d' hi hd'
  cases hd'
  split at h
  ·split at h
   ·cases h; exact ⟨rfl,rfl,rfl,rfl⟩
   ·cases h
  ·cases h
 ·cases h
theorem run_isAgg' {t:Nat} {d:TypeDesc} (h:P.underlying t = some d) (w:World):(isAgg t).run P w = .ok (aggDesc d) w:=by
 unfold isAgg
 simp only [Sem.run_bind,run_underlying h,Result.andThen_ok]
 cases d <;> rfl
theorem run_sizeOf' {t:Nat} {i:TypeInfo} (h:P.info? t = some i) (w:World):(sizeOf t).run P w = .ok i.size w:=by
 simp [sizeOf,run_typeInfo w h]
theorem szOf_spec {t:Nat} {s:Nat × Bool} (h:szOf P t = some s):(∀ w,(sizeOf t).run P w = .ok s.1 w) ∧ (∀ w,(isAgg t).run P w = .ok s.2 w):=by
 unfold szOf at h
 split at h
 ·rename_i i d hi hd
  cases h
  exact ⟨run_sizeOf' hi,run_isAgg' hd⟩
 ·cases h
theorem fieldsOf_get:∀ {fs:List Field} {r:List (Nat × Nat × Bool)},fieldsOf P fs = some r → ∀ (i:Nat) g,r[i]? = some g → ∃ f,fs[i]? = some f ∧ f.offset = g.1 ∧ szOf P f.type = some g.2
 | [],r,h,i,g,hg=>by cases h; simp at hg
 | f :: fs,r,h,i,g,hg=>by
  unfold fieldsOf at h
  split at h
  ·rename_i s r' hs hr
   cases h
   cases i with
   | zero=>simp at hg; subst hg; exact ⟨f,rfl,rfl,hs⟩
   | succ i=>simpa using fieldsOf_get hr i g (by simpa using hg)
  ·cases h
theorem kind_str {d:TypeDesc} (h:kindOf P d = .str):d = .string:=by
 cases d <;> simp only [kindOf] at h <;> first | rfl | (cases h; done) | (split at h <;> cases h)
theorem kind_bool {d:TypeDesc} (h:kindOf P d = .bool):d = .bool:=by
 cases d <;> simp only [kindOf] at h <;> first | rfl | (cases h; done) | (split at h <;> cases h)
theorem kind_int {d:TypeDesc} {k:IntKind} (h:kindOf P d = .int k):d = .int k:=by
 cases d <;> simp only [kindOf] at h <;> first | (cases h; rfl) | (cases h; done) | (split at h <;> cases h)
theorem kind_slice {d:TypeDesc} {es:Nat} {ea:Bool} (h:kindOf P d = .slice es ea):∃ e,d = .slice e ∧ szOf P e = some (es,ea):=by
 cases d <;> simp only [kindOf] at h <;> first | (cases h; done) | (split at h <;> first | (cases h; done) | (rename_i e _ s hs; cases h; exact ⟨e,rfl,hs⟩))
theorem kind_array {d:TypeDesc} {n es:Nat} {ea:Bool} (h:kindOf P d = .array n es ea):∃ e,d = .array n e ∧ szOf P e = some (es,ea):=by
 cases d <;> simp only [kindOf] at h <;> first | (cases h; done) | (split at h <;> first | (cases h; done) | (rename_i n' e _ s hs; cases h; exact ⟨e,rfl,hs⟩))
theorem kind_struct {d:TypeDesc} {r} (h:kindOf P d = .struct r):∃ fs,d = .struct fs ∧ fieldsOf P fs.toList = some r:=by
 cases d <;> simp only [kindOf] at h <;> first | (cases h; done) | (split at h <;> first | (cases h; done) | (rename_i fs _ s hs; cases h; exact ⟨fs,rfl,hs⟩))
theorem kind_map {d:TypeDesc} {kk:Option IntKind} {es:Nat} {ea:Bool} (h:kindOf P d = .map kk es ea):∃ k e,d = .map k e ∧ keyKind P k = some kk ∧ szOf P e = some (es,ea):=by
 cases d <;> simp only [kindOf] at h <;> first | (cases h; done) | (split at h <;> first | (cases h; done) | (rename_i k e _ _ kk s hk hs; cases h; exact ⟨k,e,rfl,hk,hs⟩))
theorem kind_ptr {d:TypeDesc} (h:kindOf P d = .ptr):∃ e,d = .pointer e:=by
 cases d <;> simp only [kindOf] at h <;> first | exact ⟨_,rfl⟩ | (cases h; done) | (split at h <;> cases h)
theorem run_part {e off:Nat} {s:Nat × Bool} (hs:szOf P e = some s) {F w B ds vs d} (h:RepL F w B ds vs) (hp:partOf s.2 s.1 off ds = some d) (w':World) :
  ∃ v,(part e vs.toArray off).run P w' = .ok v w' ∧ Rep F w B d v:=by
 obtain ⟨h1,h2⟩:=szOf_spec hs
 unfold part
 simp only [Sem.run_bind,h2,Result.andThen_ok]
 unfold partOf at hp
 cases hb:s.2
 ·rw [hb] at hp
  simp only [Bool.false_eq_true,if_false] at hp ⊢
  obtain ⟨v,hv,hr⟩:=h.get off hp
  refine ⟨v,?_,hr⟩
  simp [hv]
 ·rw [hb] at hp
  simp only [if_true] at hp ⊢
  split at hp
  ·rename_i hl
   cases hp
   refine ⟨.agg ((vs.drop off).take s.1).toArray,?_,.agg _ _ ((h.drop off).take s.1)⟩
   simp only [Sem.run_bind,h1,Result.andThen_ok,Sem.run_pure]
   congr 2
   apply Array.ext'
   simp [List.extract_eq_take_drop]
  ·cases hp
theorem add_eq (b off n:Nat):(⟨b,off,none⟩:Addr).add n = ⟨b,off + n,none⟩:=by
 unfold Addr.add; split
 ·rename_i h; subst h; rfl
 ·rfl
theorem run_loadVar' {t b off:Nat} {ti:TI} (ht:tiOf P t = some ti) {F w B ds vs d} (h:RepL F w B ds vs) (hp:partOf ti.agg ti.size off ds = some d) {o:Nat}
  (hc:∀ j v,vs[j]? = some v → w.cell? ⟨b,o + j,none⟩ = some v) (ho:off ≤ vs.length):∃ v,(loadVar t ⟨b,o + off,none⟩).run P w = .ok v w ∧ Rep F w B d v:=by
 obtain ⟨i,de,z,hi,hd,hz,hz1,hz2,hz3,hsz,hag,hk⟩:=tiOf_spec ht
 unfold loadVar
 simp only [Sem.run_bind,run_isAgg' hd,Result.andThen_ok,hag]
 unfold partOf at hp
 cases hb:ti.agg
 ·rw [hb] at hp
  simp only [Bool.false_eq_true,if_false] at hp ⊢
  obtain ⟨v,hv,hr⟩:=h.get off hp
  refine ⟨v,?_,hr⟩
  simp [hc off v hv]
 ·rw [hb] at hp
  simp only [if_true] at hp ⊢
  split at hp
  ·rename_i hl
   cases hp
   have hlen:=RepL.length h
   refine ⟨.agg ((vs.drop off).take ti.size).toArray,?_,.agg _ _ ((h.drop off).take ti.size)⟩
   simp only [Sem.run_bind,run_sizeOf' hi,Result.andThen_ok,hsz]
   have hl2:((vs.drop off).take ti.size).length = ti.size:=by simp; omega
   have:=run_loadCells_list (P:=P) w ⟨b,o + off,none⟩ ((vs.drop off).take ti.size) (fun j v hj=>by
    rw [add_eq]
    have hj2:j < ti.size:=by
     have:=(List.getElem?_eq_some_iff.1 hj).1; omega
    rw [List.getElem?_take,if_pos hj2,List.getElem?_drop] at hj
    have:=hc (off + j) v hj
    rwa [show o + off + j = o + (off + j) by omega])
   rw [hl2] at this
   simp [this]
  ·cases hp
end
end Go.Proofs.YtibgdilkodjojaaGreatDoor.RX
