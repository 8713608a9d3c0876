import Derived.Test.YtibgdilkodjojaaGreatDoorQRxEvB
import Derived.Test.YtibgdilkodjojaaGreatDoorQRxMap
set_option linter.all false
namespace Go.Proofs.YtibgdilkodjojaaGreatDoor.RX
open Go.RowKit Go.MapKept
section
variable {F:Fz} {w:World} {kk:Option IntKind} {ag:Bool} {α:Type} {enc:α → List D}
theorem EntsOK.del {x:MK} (hx:x.ok kk):∀ {l:List (MK × α)} {es:List MapEntry},EntsOK F w kk ag enc l es →
  ((∀ e ∈ es,e.key ≠ x.val kk) ∧ EntsOK F w kk ag enc (mdel l x) es) ∨
  (∃ j e,es[j]? = some e ∧ e.key = x.val kk ∧ EntsOK F w kk ag enc (mdel l x) (es.eraseIdx j))
 | _,_,.nil=>.inl ⟨fun e he=>by simp at he,.nil⟩
 | _,_,.cons y v l e es hk hy hv hr=>by
  by_cases hxy:y = x
  ·subst hxy
   exact .inr ⟨0,e,rfl,hk,by simpa [mdel] using hr⟩
  ·have hne:e.key ≠ x.val kk:=fun h=>hxy (MK.inj hy hx (hk.symm.trans h))
   rcases EntsOK.del hx hr with ⟨h1,h2⟩ | ⟨j,e0,h1,h2,h3⟩
   ·refine .inl ⟨fun e' he=>?_,?_⟩
    ·rcases List.mem_cons.1 he with rfl | he
     ·exact hne
     ·exact h1 e' he
    ·simp only [mdel,hxy,if_false]
     exact .cons _ _ _ _ _ hk hy hv h2
   ·refine .inr ⟨j + 1,e0,by simpa using h1,h2,?_⟩
    simp only [mdel,hxy,if_false,List.eraseIdx_cons_succ]
    exact .cons _ _ _ _ _ hk hy hv h3
end
section
variable {P:Program} {F0:Fz} {w0:Pt P} {B:Env} {F:Fz} {M:Mem} {w:World} {a:Act} {get:Operand → Option D} {Γ:Nat → Option TI} {L:Boxes}
theorem ev_ptr (hΓ:ΓOK P Γ) {op:BinOp} {t yt:Nat} {ti:TI} (ht:Γ t = some ti) (hk:ti.kind = .ptr) {x y:Operand} {dx dy:D} {r:Bool} (hx:Rep F w B dx (a.eval x)) (hy:Rep F w B dy (a.eval y)) (he:evPtr op dx dy = some r)
  {o:Oper} (ho:o.op = .binOp op t x y yt):OutOK P F w B M a o (.val (.val (.bool r))):=by
 obtain ⟨i,de,z,hi,hde,hz,hz1,hz2,hz3,hsz,hag,hkd⟩:=tiOf_spec (hΓ _ _ ht).1
 obtain ⟨e,rfl⟩:=kind_ptr (by rw [hkd]; exact hk)
 generalize hv:a.eval x = vx at hx
 generalize hu:a.eval y = vy at hy
 have key:∀ (p q:Option Addr) (b:Bool),vx = .pointer p → vy = .pointer q → (∀ w,(Op.equal t (.pointer p) (.pointer q)).run P w = .ok b w) → (op = .eql ∧ r = b) ∨ (op = .neq ∧ r = !b) → (execOp a.eval o).run P w = .ok (.value (.bool r)) w:=by
  rintro p q b rfl rfl heq hop
  unfold execOp
  rcases hop with ⟨rfl,rfl⟩ | ⟨rfl,rfl⟩
  all_goals
   simp only [ho,hv,hu,Sem.run_bind,eqGuard,Result.andThen_ok,Go.binOp,heq,Sem.run_pure]
   rfl
 have heq1:∀ (p:Addr) w,(Op.equal t (.pointer (some p)) (.pointer none)).run P w = .ok false w:=fun p w=>by
  rw [Op.equal,show Op.maxDepth = 9999 + 1 from rfl,Op.equalIn]
  simp [run_underlying hde]
 have heq2:∀ w,(Op.equal t (.pointer none) (.pointer none)).run P w = .ok true w:=fun w=>by
  rw [Op.equal,show Op.maxDepth = 9999 + 1 from rfl,Op.equalIn]
  simp [run_underlying hde]
 unfold evPtr at he
 split at he <;> first | (cases he; done) | skip
 all_goals
  cases he
  cases hx; cases hy
 ·exact ⟨_,key _ _ _ rfl rfl (heq1 _) (.inl ⟨rfl,rfl⟩),.val _ rfl⟩
 ·exact ⟨_,key _ _ _ rfl rfl (heq1 _) (.inr ⟨rfl,rfl⟩),.val _ rfl⟩
 ·exact ⟨_,key _ _ _ rfl rfl heq2 (.inl ⟨rfl,rfl⟩),.val _ rfl⟩
 ·exact ⟨_,key _ _ _ rfl rfl heq2 (.inr ⟨rfl,rfl⟩),.val _ rfl⟩
theorem argsG2 {c:Call} {x y:D} (hg:GetOK F w B a get) (ha:getAll get c.args.toList = some [x,y]):∃ u v,c.args.map a.eval = #[u,v] ∧ Rep F w B x u ∧ Rep F w B y v:=by
 have h:=hg.all _ _ ha
 have hm:c.args.map a.eval = (c.args.toList.map a.eval).toArray:=by apply Array.ext'; simp
 generalize hvs:c.args.toList.map a.eval = vs at h hm
 cases h with
 | cons _ u _ vs' hd hs =>
  cases hs with
  | cons _ v _ vs' hd2 hs =>
   cases hs
   exact ⟨u,v,hm,hd,hd2⟩
theorem ev_delete (hΓ:ΓOK P Γ) (hb:Base F0 w0 B F M w) {c:Call} {t t2:Nat} {ti:TI} (ht:Γ t = some ti) {kk:Option IntKind} {es:Nat} {ag:Bool} (hk:ti.kind = .map kk es ag) (hat:c.argTypes.toList = [t,t2]) {k:Nat} {dy:D} {key:MK}
  (hc:c.callee = .builtin .delete) (hg:GetOK F w B a get) (ha:getAll get c.args.toList = some [.mp k,dy]) (hkey:mkOf kk dy = some key) {o:Oper} (ho:o.op = .call c):OutOK P F w B M a o (.mdl k kk ag key):=by
 intro tt α d enc l hl
 obtain ⟨_,de,_,_,hde,_,_,_,_,_,_,hkd⟩:=tiOf_spec (hΓ _ _ ht).1
 obtain ⟨kt,et,rfl,hkk,hsz⟩:=kind_map (by rw [hkd]; exact hk)
 have hkd':=keyKind_spec hkk
 obtain ⟨u,v,hm,hu,hv⟩:=argsG2 hg ha
 obtain ⟨rfl,hkok⟩:=mkOf_spec hkey hv
 obtain ⟨b,hB,_,_,_,ents,clock,hh,hst,hes⟩:=hb.map' hl
 have hxu:u = .map (some b):=by
  cases hu with
  | mp _ b' hB'=>rw [hB] at hB'; cases hB'; rfl
 subst hxu
 have hat':c.argTypes = #[t,t2]:=by apply Array.ext'; simpa using hat
 have hfr:=find_run (P:=P) hkd' hkok hes.keys hst.2.2 w
 have hck:∀ em,(Instr.checkKey em 10000 kt (key.val kk)).run P w = .ok () w:=fun em=>MapKept.run_checkKey hkd' (MK.isKey hkok) em 9999
 refine ⟨b,?_⟩
 rcases hes.del hkok with ⟨h1,h2⟩ | ⟨j,e,h1,h2,h3⟩
 ·refine ⟨{ w with heap:=w.heap.setIfInBounds b (.map ents clock) },hB,?_,⟨rfl,rfl,rfl,by simp,fun i hi=>(heap_set hh).2 i hi⟩,_,_,(heap_set hh).1,hst,h2⟩
  unfold execOp
  simp only [ho,resolve,hc,hm,hat',Sem.run_bind,Sem.run_pure,Result.andThen_ok,invoke,builtin,Builtin.delete_]
  simp [run_underlying hde,MapKept.run_getObj_map hh,hck,hfr.1 h1,MapKept.run_setObj_map _ hh]
 ·have hj:j < ents.size:=by
   have:=(List.getElem?_eq_some_iff.1 h1).1
   simpa using this
  refine ⟨{ w with heap:=w.heap.setIfInBounds b (.map (ents.eraseIdxIfInBounds j) clock) },hB,?_,⟨rfl,rfl,rfl,by simp,fun i hi=>(heap_set hh).2 i hi⟩,_,_,(heap_set hh).1,stamped_erase hst j,?_⟩
  ·unfold execOp
   simp only [ho,resolve,hc,hm,hat',Sem.run_bind,Sem.run_pure,Result.andThen_ok,invoke,builtin,Builtin.delete_]
   simp [run_underlying hde,MapKept.run_getObj_map hh,hck,hfr.2 j e h1 h2,MapKept.run_setObj_map _ hh]
  ·have:(ents.eraseIdxIfInBounds j).toList = ents.toList.eraseIdx j:=by
    unfold Array.eraseIdxIfInBounds
    rw [dif_pos hj,Array.toList_eraseIdx]
   rw [this]
   exact h3
theorem take_flat {α:Type} {enc:α → List D} {z:Nat} (hz:∀ x,(enc x).length = z):∀ (m:Nat) (l:List α),(l.flatMap enc).take (m * z) = (l.take m).flatMap enc
 | 0,l=>by simp
 | m + 1,[]=>by simp
 | m + 1,x :: l=>by
  rw [List.flatMap_cons,List.take_succ_cons,List.flatMap_cons,Nat.add_mul,Nat.one_mul,Nat.add_comm,List.take_append,hz,List.take_of_length_le (by rw [hz]; omega),Nat.add_sub_cancel_left,take_flat hz m l]
theorem drop_flat {α:Type} {enc:α → List D} {z:Nat} (hz:∀ x,(enc x).length = z):∀ (m:Nat) (l:List α),(l.flatMap enc).drop (m * z) = (l.drop m).flatMap enc
 | 0,l=>by simp
 | m + 1,[]=>by simp
 | m + 1,x :: l=>by
  rw [List.flatMap_cons,List.drop_succ_cons,Nat.add_mul,Nat.one_mul,Nat.add_comm,List.drop_append,hz,List.drop_of_length_le (by rw [hz]; omega),List.nil_append,Nat.add_sub_cancel_left,drop_flat hz m l]
theorem ev_copy (hΓ:ΓOK P Γ) (hb:Base F0 w0 B F M w) (hL:RowsIn M L) {c:Call} {t t2:Nat} {ti:TI} (ht:Γ t = some ti) {es:Nat} {ea:Bool} (hk:ti.kind = .slice es ea) (hat:c.argTypes.toList = [t,t2]) {k:Nat} {x:D} {cs:List D} {n:Nat}
  (hc:c.callee = .builtin .copy) (hg:GetOK F w B a get) (ha:getAll get c.args.toList = some [.row k,x]) (hx:contentOf es L x = some (cs,n)) (hns:∀ l,x ≠ .str l) {o:Oper} (ho:o.op = .call c):OutOK P F w B M a o (.cpy k es cs n):=by
 intro tt α d enc l xs hl hz hw hxn
 obtain ⟨_,de,_,_,hde,_,_,_,_,_,_,hkd⟩:=tiOf_spec (hΓ _ _ ht).1
 obtain ⟨et,rfl,hsz⟩:=kind_slice (by rw [hkd]; exact hk)
 obtain ⟨hsz1,_⟩:=szOf_spec hsz
 obtain ⟨u,v,hm,hu,hv⟩:=argsG2 hg ha
 have hat':c.argTypes = #[t,t2]:=by apply Array.ext'; simpa using hat
 obtain ⟨p,nn,cap,hB,hrow⟩:=hb.row' hl
 obtain ⟨hn0,hpos,hge,ys,hys,hown,hfz⟩:=hrow
 have hpos':0 < es:=by omega
 obtain ⟨news,hnews,hnl,hlen,hfull,hq⟩:=content_ok hb hL hpos' hx hv
 obtain ⟨q,qcap,rfl,hcell⟩:∃ q cap,v = .slice q n cap ∧ ∀ b,q = some b → ∀ j u,news[j]? = some u → w.cell? (b.add j) = some u:=by
  rcases hq with h | ⟨l,h⟩
  ·exact h
  ·exact absurd h (hns l)
 have hlr:=hlen w
 generalize hmm:Nat.min n nn = m
 have hmn:m ≤ n:=by rw [← hmm]; exact Nat.min_le_left _ _
 have hmn2:m ≤ nn:=by rw [← hmm]; exact Nat.min_le_right _ _
 have hread:(Builtin.firstCells es m (.slice q n qcap)).run P w = .ok (news.take (m * es)).toArray w:=by
  cases q with
  | none =>
   have h0:n = 0:=by
    have h1:=hfull w (fun _=>rfl)
    simp only [Builtin.firstCells,Sem.run_pure,Result.ok.injEq,and_true] at h1
    have h2:news.length = 0:=by
     have:=congrArg Array.size h1
     simpa using this.symm
    rw [hnl] at h2
    rcases Nat.mul_eq_zero.1 h2 with h | h
    ·exact h
    ·omega
   subst h0
   have:m = 0:=by omega
   subst this
   simp [Builtin.firstCells]
  | some b =>
   refine run_firstCells_some w es m b n qcap _ (by rw [List.length_take,hnl,Nat.min_eq_left (Nat.mul_le_mul_right _ hmn)]) fun j u hj=>hcell b rfl j u ?_
   rw [List.getElem?_take] at hj
   split at hj
   ·exact hj
   ·cases hj
 have hml:Nat.min n l.length = m:=by rw [← hn0]; exact hmm
 have hus:RepL F w NB ((xs.take l.length).flatMap enc) (news.take (m * es)):=by
  have h1:=(hw.rep hnews).take (m * es)
  rw [take_flat (fun y=>(hge y).1.trans hz)] at h1
  have:xs.take m = xs.take l.length:=by
   rcases Nat.le_total n l.length with h | h
   ·have:m = n:=by rw [← hml]; exact Nat.min_eq_left h
    rw [this,List.take_of_length_le (by omega),List.take_of_length_le (by omega)]
   ·have:m = l.length:=by rw [← hml]; exact Nat.min_eq_right h
    rw [this]
  rwa [this] at h1
 have hone:∀ y ∈ news.take (m * es),y.oneCell' = true:=by
  refine RepL.all_flat hus ?_
  rw [List.all_flatMap,List.all_eq_true]
  intro y _
  exact (hge y).2
 rw [hml]
 have hrun:∀ (base:Option Addr) (cp:Nat) (w':World),u = .slice base nn cp → (∀ a',base = some a' → (storeCells a' (news.take (m * es)) 0).run P w = .ok () w') → (base = none → w' = w) → (execOp a.eval o).run P w = .ok (.value (.int .i64 (m:Nat))) w':=by
  rintro base cp w' rfl h1 h2
  unfold execOp
  simp only [ho,resolve,hc,hm,hat',Sem.run_bind,Sem.run_pure,Result.andThen_ok,invoke,builtin,Builtin.copy_]
  cases base with
  | none =>
   rw [h2 rfl]
   simp [run_underlying hde,hlr,hsz1,hmm,hread,goInt]
  | some a' =>
   simp [run_underlying hde,hlr,hsz1,hmm,hread,h1 a' rfl,goInt]
 rcases hown.2 with ⟨hp,hnn,hcp⟩ | ⟨g,cur,fz,hp,hh,hfr,hnc,hcm,hcs,htk⟩
 ·subst hp
  refine ⟨none,nn,cap,w,hB,?_,.inl ⟨rfl,rfl⟩⟩
  have hm0:m = 0:=by omega
  cases hu with
  | row _ p' n' cap' hB' =>
   rw [hB] at hB'; cases hB'
   exact hrun none _ w rfl (fun _ h=>by cases h) fun _=>rfl
  | rowNil _ q' hB' =>
   rw [hB] at hB'
   simp only [Option.some.injEq,Ref.row.injEq] at hB'
   obtain ⟨_,rfl,rfl⟩:=hB'
   refine hrun q' 0 w rfl (fun a' _=>?_) fun _=>rfl
   rw [hm0,Nat.zero_mul,List.take_zero]
   rfl
 ·subst hp
  refine ⟨some g,nn,cap,_,hB,?_,.inr ⟨g,cur,fz,_,rfl,hh,hus,rfl⟩⟩
  cases hu with
  | row _ p' n' cap' hB' =>
   rw [hB] at hB'; cases hB'
   refine hrun _ _ _ rfl (fun a' h=>?_) fun h=>by cases h
   cases h
   have hle:m * es ≤ cur.size:=by
    rw [hcs,hz]; exact Nat.mul_le_mul_right _ (by omega)
   have hst:=run_storeCells_fz (P:=P) g 0 tt fz (news.take (m * es)) 0 cur w hh hfr (by rw [List.length_take]; omega) hone
   rw [hst]
   simp [setVals]
  | rowNil _ q' hB'=>rw [hB] at hB'; cases hB'
theorem evX_sound (hΓ:ΓOK P Γ) (hb:Base F0 w0 B F M w) (hR:RowsIn M L) (hg:GetOK F w B a get) {o:Oper} {out:Out} (he:evX Γ L get o.op = some out):OutOK P F w B M a o out:=by
 generalize ho:o.op = op at he
 unfold evX at he
 split at he
 ·split at he
  ·rename_i ti dx dy ht hx hy
   split at he
   ·rename_i hk
    obtain ⟨b,h1,rfl⟩:=Option.map_eq_some_iff.1 he
    exact ev_ptr hΓ ht hk (hg _ _ hx) (hg _ _ hy) h1 ho
   ·cases he
  ·cases he
 ·split at he
  ·rename_i hc ha hat
   split at he
   ·rename_i ti ht
    split at he
    ·rename_i hk
     obtain ⟨key,h1,rfl⟩:=Option.map_eq_some_iff.1 he
     exact ev_delete hΓ hb ht hk hat hc hg ha h1 ho
    ·cases he
   ·cases he
  ·rename_i k x t t2 hc ha hat
   split at he
   ·rename_i ti ht
    split at he
    ·rename_i es ea hk
     split at he
     ·cases he
     ·split at he
      ·cases he
      ·rename_i hns
       obtain ⟨⟨cs,n⟩,h1,rfl⟩:=Option.map_eq_some_iff.1 he
       exact ev_copy hΓ hb hR ht hk hat hc hg ha h1 hns ho
    ·cases he
   ·cases he
  ·cases he
 ·cases he
end
end Go.Proofs.YtibgdilkodjojaaGreatDoor.RX
