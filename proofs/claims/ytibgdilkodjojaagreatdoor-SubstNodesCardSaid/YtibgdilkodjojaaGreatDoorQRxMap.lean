import Derived.Test.YtibgdilkodjojaaGreatDoorQRxEv
import Derived.ChangeMaps5
set_option linter.all false
namespace Go.Proofs.YtibgdilkodjojaaGreatDoor.RX
open Go.RowKit Go.MapKept
def kdesc:Option IntKind → TypeDesc
 | none=>.string
 | some k=>.int k
theorem MK.isKey {kk:Option IntKind} {x:MK} (h:x.ok kk):IsKey (kdesc kk) (x.val kk):=by
 cases x with
 | inl s=>simp only [MK.ok] at h; subst h; trivial
 | inr n =>
  simp only [MK.ok] at h
  cases kk with
  | none=>exact absurd rfl h
  | some k=>rfl
theorem MK.inj {kk:Option IntKind} {x y:MK} (hx:x.ok kk) (hy:y.ok kk) (h:x.val kk = y.val kk):x = y:=by
 cases x with
 | inl s =>
  cases y with
  | inl t =>
   simp only [MK.val,Value.string.injEq,ByteArray.mk.injEq] at h
   have:s = t:=by simpa using h
   rw [this]
  | inr n=>simp only [MK.ok] at hx hy; exact absurd hx hy
 | inr n =>
  cases y with
  | inl t=>simp only [MK.ok] at hx hy; exact absurd hy hx
  | inr m=>simp only [MK.val,Value.int.injEq,true_and] at h; rw [h]
section
variable {F:Fz} {w:World} {kk:Option IntKind} {ag:Bool} {α:Type} {enc:α → List D}
theorem EntsOK.keys:∀ {l:List (MK × α)} {es:List MapEntry},EntsOK F w kk ag enc l es → ∀ e ∈ es,IsKey (kdesc kk) e.key
 | _,_,.nil,e,he=>by cases he
 | _,_,.cons x v l e0 es hk hx hv hr,e,he=>by
  rcases List.mem_cons.1 he with rfl | he
  ·rw [hk]; exact (MK.isKey hx)
  ·exact EntsOK.keys hr e he
theorem EntsOK.find {x:MK} (hx:x.ok kk):∀ {l:List (MK × α)} {es:List MapEntry},EntsOK F w kk ag enc l es →
  (mlook l x = none ∧ (∀ e ∈ es,e.key ≠ x.val kk) ∧ ∀ v e,e.key = x.val kk → ElemOK F w ag (enc v) e.val → EntsOK F w kk ag enc (mput l x v) (es ++ [e])) ∨
  (∃ v j e,mlook l x = some v ∧ es[j]? = some e ∧ e.key = x.val kk ∧ ElemOK F w ag (enc v) e.val ∧ ∀ v' e',e'.key = x.val kk → ElemOK F w ag (enc v') e'.val → EntsOK F w kk ag enc (mput l x v') (es.set j e'))
 | _,_,.nil=>.inl ⟨rfl,fun e he=>by simp at he,fun v e h1 h2=>.cons _ _ _ _ _ h1 hx h2 .nil⟩
 | _,_,.cons y v l e es hk hy hv hr=>by
  by_cases hxy:y = x
  ·subst hxy
   refine .inr ⟨v,0,e,by simp [mlook],rfl,hk,hv,fun v' e' h1 h2=>?_⟩
   simp only [mput,if_true,List.set_cons_zero]
   exact .cons _ _ _ _ _ h1 hx h2 hr
  ·have hne:e.key ≠ x.val kk:=fun h=>hxy (MK.inj hy hx (hk.symm.trans h))
   rcases EntsOK.find hx hr with ⟨h1,h2,h3⟩ | ⟨u,j,e0,h1,h2,h3,h4,h5⟩
   ·refine .inl ⟨by simp [mlook,hxy,h1],fun e' he=>?_,fun v' e' g1 g2=>?_⟩
    ·rcases List.mem_cons.1 he with rfl | he
     ·exact hne
     ·exact h2 e' he
    ·simp only [mput,hxy,if_false,List.cons_append]
     exact .cons _ _ _ _ _ hk hy hv (h3 v' e' g1 g2)
   ·refine .inr ⟨u,j + 1,e0,by simp [mlook,hxy,h1],by simpa using h2,h3,h4,fun v' e' g1 g2=>?_⟩
    simp only [mput,hxy,if_false,List.set_cons_succ]
    exact .cons _ _ _ _ _ hk hy hv (h5 v' e' g1 g2)
theorem find_run {P:Program} {kt:TypeId} (hd:P.underlying kt = some (kdesc kk)) {x:MK} (hx:x.ok kk) {es:List MapEntry} (hes:∀ e ∈ es,IsKey (kdesc kk) e.key) (hn:(es.map (·.key)).Nodup) (w':World) :
  ((∀ e ∈ es,e.key ≠ x.val kk) → (Instr.findKey kt (x.val kk) es).run P w' = .ok none w') ∧ (∀ j e,es[j]? = some e → e.key = x.val kk → (Instr.findKey kt (x.val kk) es).run P w' = .ok (some (j,e.val)) w'):=by
 rcases findNow_spec (MK.isKey hx) es 0 hes with ⟨h1,h2⟩ | ⟨j,e,h1,h2,h3⟩
 ·refine ⟨fun _=>run_findKey hd h1,fun j e he hk=>?_⟩
  exact absurd hk (h2 e (List.mem_of_getElem? he))
 ·rw [Nat.zero_add] at h1
  refine ⟨fun h=>absurd h3 (h e (List.mem_of_getElem? h2)),fun j' e' he hk=>?_⟩
  have hj:j = j':=by
   have a1:(es.map (·.key))[j]? = some (x.val kk):=by rw [List.getElem?_map,h2]; simp [h3]
   have a2:(es.map (·.key))[j']? = some (x.val kk):=by rw [List.getElem?_map,he]; simp [hk]
   have l1:=(List.getElem?_eq_some_iff.1 a1).1
   have l2:=(List.getElem?_eq_some_iff.1 a2).1
   refine (List.getElem?_inj l1 hn).1 (a1.trans a2.symm)
  subst hj
  rw [h2] at he; cases he
  exact run_findKey hd h1
end
section
variable {P:Program} {F0:Fz} {w0:Pt P} {B:Env} {F:Fz} {M:Mem} {w:World} {a:Act} {get:Operand → Option D} {Γ:Nat → Option TI} {L:Boxes}
theorem keyKind_spec {k:Nat} {kk:Option IntKind} (h:keyKind P k = some kk):P.underlying k = some (kdesc kk):=by
 unfold keyKind at h
 split at h
 ·rename_i h1; cases h; exact h1
 ·rename_i q h1; cases h; exact h1
 ·cases h
theorem mkOf_spec {kk:Option IntKind} {d:D} {x:MK} {v:Value} (h:mkOf kk d = some x) (hv:Rep F w B d v):v = x.val kk ∧ x.ok kk:=by
 unfold mkOf at h
 split at h
 ·rename_i s
  split at h
  ·cases h
   cases hv
   exact ⟨rfl,rfl⟩
  ·cases h
 ·rename_i k n
  split at h
  ·rename_i hk
   cases h
   subst hk
   cases hv
   exact ⟨rfl,fun h=>by cases h⟩
  ·cases h
 ·cases h
theorem ev_mkmap {t:Nat} {kk:Option IntKind} {ag:Bool} {o:Oper} (ho:o.op = .makeMap t none):OutOK P F w B M a o (.mkmap t kk ag):=by
 show (execOp a.eval o).run P w = _
 unfold execOp
 simp only [ho,Option.map_none,Instr.makeMap,Sem.run_bind,Result.andThen_ok,Sem.run_pure,run_newObj]
 rfl
theorem zero_elem {t:Nat} {ti:TI} {k e:Nat} (ht:tiOf P t = some ti) (hd:P.underlying t = some (.map k e)) {es:Nat} {ag:Bool} (hs:szOf P e = some (es,ag)) (hz:ti.ez.length = es) (h0:0 < es) :
  ∃ z,(∀ w,(zeroValue e).run P w = .ok z w) ∧ ti.ez.all flatV = true ∧ (ag = true → z = .agg ti.ez.toArray) ∧ (ag = false → ti.ez = [z] ∧ flatV z = true):=by
 have he:=(tiOf_elem ht hd).2.2.1
 unfold elemTI at he
 simp only at he
 generalize ti.ez = zs at he hz
 unfold szOf at hs
 unfold mapZero at he
 split at hs
 rotate_left
 ·cases hs
 rename_i i d hi hd'
 cases hs
 rw [hi,hd'] at he
 simp only at he
 have hrun:∀ z,i.zero = some z → ∀ w,(zeroValue e).run P w = .ok z w:=by
  intro z hzz w
  simp only [zeroValue,Sem.run_bind,run_typeInfo w hi,Result.andThen_ok,hzz,Sem.run_pure]
 split at he
 ·rename_i vs hzv
  split at he
  ·rename_i hc
   simp only [Bool.and_eq_true,beq_iff_eq] at hc
   subst he
   exact ⟨_,hrun _ hzv,hc.1.2,fun _=>by simp,fun h=>by rw [hc.1.1] at h; cases h⟩
  ·subst he; simp at hz; omega
 ·rename_i v hna hzv
  split at he
  ·rename_i hc
   simp only [Bool.and_eq_true,beq_iff_eq,Bool.not_eq_true'] at hc
   subst he
   exact ⟨_,hrun _ hzv,by simp [hc.1.2],fun h=>(by rw [hc.1.1] at h; cases h),fun _=>⟨rfl,hc.1.2⟩⟩
  ·subst he; simp at hz; omega
 ·subst he; simp at hz; omega
theorem ElemOK.of {F:Fz} {w:World} {ag:Bool} {ds:List D} {v:Value} {r:D} (h:ElemOK F w ag ds v) (hr:elemD ag ds = some r) (B:Env):Rep F w B r v:=by
 obtain ⟨d,h1,h2⟩:=h
 rw [hr] at h1; cases h1
 exact h2.lift fun _=>rfl
theorem ev_lookup (hΓ:ΓOK P Γ) (hb:Base F0 w0 B F M w) {t:Nat} {ti:TI} (ht:Γ t = some ti) {kk:Option IntKind} {es:Nat} {ag:Bool} (hk:ti.kind = .map kk es ag) {x y:Operand} {k:Nat}
  (hx:Rep F w B (.mp k) (a.eval x)) {dy:D} {key:MK} (hy:Rep F w B dy (a.eval y)) (hkey:mkOf kk dy = some key) (hz:ti.ez.length = es) (h0:0 < es) {ok:Bool} {o:Oper} (ho:o.op = .lookup t x y ok) :
  OutOK P F w B M a o (.mlk k kk ag key ok (ti.ez.map ofValue)):=by
 intro tt α d enc l hl
 obtain ⟨_,de,_,_,hde,_,_,_,_,_,_,hkd⟩:=tiOf_spec (hΓ _ _ ht).1
 obtain ⟨kt,et,rfl,hkk,hsz⟩:=kind_map (by rw [hkd]; exact hk)
 have hkd':=keyKind_spec hkk
 obtain ⟨hv,hkok⟩:=mkOf_spec hkey hy
 obtain ⟨b,hB,_,_,_,ents,clock,hh,hst,hes⟩:=hb.map' hl
 obtain ⟨zv,hzrun,hzfl,hzt,hzf⟩:=zero_elem (hΓ _ _ ht).1 hde hsz hz h0
 have hxv:a.eval x = .map (some b):=by
  generalize hvx:a.eval x = vx at hx
  cases hx with
  | mp _ b' hB'=>rw [hB] at hB'; cases hB'; rfl
 have hfr:=find_run (P:=P) hkd' hkok hes.keys hst.2.2 w
 have hlook:∀ z:α,Weaks (ti.ez.map ofValue) (enc z) → ∀ r,elemD ag (enc ((mlook l key).getD z)) = some r → ∃ v,Rep F w B r v ∧ (execOp a.eval o).run P w = .ok (.value (if ok then .tuple #[v,.bool (mlook l key).isSome] else v)) w:=by
  intro z hwz r hr
  have hck:∀ em,(Instr.checkKey em 10000 kt (key.val kk)).run P w = .ok () w:=fun em=>MapKept.run_checkKey hkd' (MK.isKey hkok) em 9999
  rcases hes.find hkok with ⟨h1,h2,_⟩ | ⟨u,j,e,h1,h2,h3,h4,_⟩
  ·rw [h1] at hr ⊢
   simp only [Option.getD_none] at hr
   have hrz:=(ofValues (F:=F) (w:=w) (B:=NB) ti.ez hzfl)
   have hrz:=hwz.rep hrz
   refine ⟨zv,?_,?_⟩
   ·cases ag with
    | true =>
     simp only [elemD,if_true,Option.some.injEq] at hr
     subst hr
     rw [hzt rfl]
     exact (Rep.agg _ _ hrz).lift fun _=>rfl
    | false =>
     obtain ⟨e1,_⟩:=hzf rfl
     rw [e1] at hrz
     generalize enc z = ds at hr hrz
     cases hrz with
     | cons d0 _ ds0 _ q qs =>
      cases qs
      simp only [elemD,Bool.false_eq_true,if_false,Option.some.injEq] at hr
      subst hr
      exact q.lift fun _=>rfl
   ·unfold execOp
    simp only [ho,hxv,hv,Instr.lookup,Sem.run_bind,run_underlying hde,MapKept.run_getObj_map hh,Result.andThen_ok,Sem.run_pure,hck,hfr.1 h2,hzrun]
    cases ok <;> rfl
  ·rw [h1] at hr ⊢
   simp only [Option.getD_some] at hr
   refine ⟨e.val,h4.of hr B,?_⟩
   unfold execOp
   simp only [ho,hxv,hv,Instr.lookup,Sem.run_bind,run_underlying hde,MapKept.run_getObj_map hh,Result.andThen_ok,Sem.run_pure,hck,hfr.2 j e h2 h3]
   cases ok <;> rfl
 cases ok with
 | false =>
  rintro r ⟨z,hwz,hr⟩
  obtain ⟨v,g1,g2⟩:=hlook z hwz r hr
  exact ⟨v,g2,g1⟩
 | true =>
  rintro r ⟨z,r',hwz,hr,rfl⟩
  obtain ⟨v,g1,g2⟩:=hlook z hwz r' hr
  exact ⟨_,g2,.tup _ [v,.bool _] (.cons _ _ _ _ g1 (.cons _ _ _ _ (.val _ rfl) .nil))⟩
theorem sealS_fl {L:Boxes}:∀ d r,sealS L d = some r → r.flat = true:=by
 intro d r h
 cases d <;> simp only [sealS] at h <;> first | (cases h; done) | (split at h <;> cases h <;> rfl)
theorem mcells_sub {s:D → Option D} (hs:∀ d r,s d = some r → r.flat = true) {z:D} {ag:Bool} {cs:List D} (h:mcells z = some (ag,cs)):mcells (D.sub s z) = some (ag,D.subs s cs):=by
 unfold mcells at h
 split at h
 ·cases h; rfl
 ·split at h
  ·rename_i hna hf
   cases h
   have hf':=sub_flat hs hf
   have hna':∀ ds,D.sub s z ≠ .agg ds:=by
    intro ds e; rw [e] at hf'; cases hf'
   unfold mcells
   split
   ·rename_i ds e; exact absurd e (hna' ds)
   ·rw [if_pos hf']; rfl
  ·cases h
theorem ev_mset (hΓ:ΓOK P Γ) (hb:Base F0 w0 B F M w) (hL:RowsIn M L) {t:Nat} {ti:TI} (ht:Γ t = some ti) {kk:Option IntKind} {es:Nat} {ag:Bool} (hk:ti.kind = .map kk es ag) {x y z:Operand} {k:Nat}
  (hx:Rep F w B (.mp k) (a.eval x)) {dy dz:D} {key:MK} (hy:Rep F w B dy (a.eval y)) (hkey:mkOf kk dy = some key) (hz:Rep F w B dz (a.eval z)) {cs:List D} (hc:mcells dz = some (ag,cs)) {o:Oper} (ho:o.op = .mapUpdate t x y z) :
  OutOK P F w B M a o (.mset k kk ag key (D.seals L cs)):=by
 intro hno tt α d enc l v hl hw
 obtain ⟨_,de,_,_,hde,_,_,_,_,_,_,hkd⟩:=tiOf_spec (hΓ _ _ ht).1
 obtain ⟨kt,et,rfl,hkk,hsz⟩:=kind_map (by rw [hkd]; exact hk)
 have hkd':=keyKind_spec hkk
 obtain ⟨hv,hkok⟩:=mkOf_spec hkey hy
 obtain ⟨b,hB,_,_,_,ents,clock,hh,hst,hes⟩:=hb.map' hl
 have hxv:a.eval x = .map (some b):=by
  generalize hvx:a.eval x = vx at hx
  cases hx with
  | mp _ b' hB'=>rw [hB] at hB'; cases hB'; rfl
 have hfr:=find_run (P:=P) hkd' hkok hes.keys hst.2.2 w
 have hck:∀ em,(Instr.checkKey em 10000 kt (key.val kk)).run P w = .ok () w:=fun em=>MapKept.run_checkKey hkd' (MK.isKey hkok) em 9999
 have hstay:(Instr.keyThatStays (key.val kk) (key.val kk)).run P w = .ok (key.val kk) w:=run_keyThatStays (MK.isKey hkok)
 have hel:ElemOK F w ag (enc v) (a.eval z):=by
  have hz':=hz.sealed hb hL
  have hc':=mcells_sub (s:=sealS L) sealS_fl hc
  have hz'':Rep F w B (D.sub (sealS L) dz) (a.eval z):=hz'
  generalize D.sub (sealS L) dz = dd at hz'' hc'
  have hno:D.noOwns (D.subs (sealS L) cs) = true:=hno
  have hw:Weaks (D.subs (sealS L) cs) (enc v):=hw
  generalize D.subs (sealS L) cs = cc at hc' hno hw
  generalize a.eval z = vz at hz''
  unfold mcells at hc'
  split at hc'
  ·cases hc'
   cases hz'' with
   | agg _ vs h=>exact ⟨_,rfl,.agg _ _ (hw.rep (h.bare hno))⟩
  ·split at hc'
   ·cases hc'
    have h1:RepL F w NB [dd] [vz]:=(RepL.cons _ _ _ _ hz'' .nil).bare hno
    have h2:=hw.rep h1
    generalize enc v = ds at h2
    cases h2 with
    | cons d0 _ ds0 _ q qs =>
     cases qs
     exact ⟨d0,rfl,q⟩
   ·cases hc'
 refine ⟨b,?_⟩
 rcases hes.find hkok with ⟨h1,h2,h3⟩ | ⟨u,j,e,h1,h2,h3,_,h5⟩
 ·refine ⟨{ w with heap:=w.heap.setIfInBounds b (.map (ents.push ⟨key.val kk,a.eval z,clock⟩) (clock + 1)) },hB,?_,⟨rfl,rfl,rfl,by simp,fun i hi=>(heap_set hh).2 i hi⟩,_,_,(heap_set hh).1,stamped_push hst h2,?_⟩
  ·unfold execOp
   simp only [ho,hxv,hv,Instr.mapUpdate,Sem.run_bind,run_underlying hde,MapKept.run_getObj_map hh,Result.andThen_ok,Sem.run_pure,hck,hfr.1 h2,MapKept.run_setObj_map _ hh]
  ·rw [Array.toList_push]
   exact h3 v _ rfl hel
 ·have hj:ents[j]? = some e:=by simpa using h2
  refine ⟨{ w with heap:=w.heap.setIfInBounds b (.map (ents.modify j fun e=>{ e with key:=key.val kk,val:=a.eval z }) clock) },hB,?_,⟨rfl,rfl,rfl,by simp,fun i hi=>(heap_set hh).2 i hi⟩,_,_,(heap_set hh).1,?_,?_⟩
  ·unfold execOp
   simp only [ho,hxv,hv,Instr.mapUpdate,Sem.run_bind,run_underlying hde,MapKept.run_getObj_map hh,Result.andThen_ok,Sem.run_pure,hck,hfr.2 j e h2 h3,hj,Option.map_some,Option.getD_some,h3,hstay,MapKept.run_setObj_map _ hh]
  ·exact stamped_modify hst _ _ (fun _ _=>rfl) fun e' _ he'=>by rw [hj] at he'; cases he'; exact h3.symm
  ·have:(ents.modify j fun e=>{ e with key:=key.val kk,val:=a.eval z }).toList = ents.toList.set j { e with key:=key.val kk,val:=a.eval z }:=by
    apply List.ext_getElem?
    intro i
    simp only [Array.getElem?_toList,Array.getElem?_modify,List.getElem?_set]
    by_cases hij:j = i
    ·subst hij
     have hlt:j < ents.toList.length:=(List.getElem?_eq_some_iff.1 h2).1
     have hlt':j < ents.size:=by simpa using hlt
     have he:=(Array.getElem?_eq_some_iff.1 hj).2
     simp [hj,hlt',he]
    ·simp [hij]
   rw [this]
   exact h5 v _ rfl hel
theorem ev_lenMap (hΓ:ΓOK P Γ) (hb:Base F0 w0 B F M w) {c:Call} {t:Nat} {ti:TI} (ht:Γ t = some ti) {kk':Option IntKind} {es:Nat} {ag':Bool} (hk:ti.kind = .map kk' es ag') (hat:c.argTypes.toList = [t]) {k:Nat} (hc:c.callee = .builtin .len) (hg:GetOK F w B a get)
  (ha:getAll get c.args.toList = some [.mp k]) {o:Oper} (ho:o.op = .call c):OutOK P F w B M a o (.mlen k):=by
 intro tt kk ag α d enc l hl
 obtain ⟨_,de,_,_,hde,_,_,_,_,_,_,hkd⟩:=tiOf_spec (hΓ _ _ ht).1
 obtain ⟨kt,et,rfl,hkk,hsz⟩:=kind_map (by rw [hkd]; exact hk)
 obtain ⟨b,hB,_,_,_,ents,clock,hh,hst,hes⟩:=hb.map' hl
 have h:=hg.all _ _ ha
 have hm:c.args.map a.eval = (c.args.toList.map a.eval).toArray:=by apply Array.ext'; simp
 generalize hvs:c.args.toList.map a.eval = vs at h hm
 cases h with
 | cons _ v _ vs' hd hs =>
  cases hs
  cases hd with
  | mp _ b' hB' =>
   rw [hB] at hB'; cases hB'
   have hat':c.argTypes = #[t]:=by apply Array.ext'; simpa using hat
   have hsz:ents.size = l.length:=by have:=hes.length; simpa using this
   unfold execOp
   simp only [ho,resolve,hc,hm,hat',Sem.run_bind,Sem.run_pure,Result.andThen_ok,invoke,builtin,Builtin.len_]
   simp [run_underlying hde,MapKept.run_getObj_map hh,hsz,goInt]
end
end Go.Proofs.YtibgdilkodjojaaGreatDoor.RX
