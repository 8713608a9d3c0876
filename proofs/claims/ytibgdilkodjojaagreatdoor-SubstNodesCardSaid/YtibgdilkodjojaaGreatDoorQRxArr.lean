import Derived.Test.YtibgdilkodjojaaGreatDoorQRxEvB
set_option linter.all false
namespace Go.Proofs.YtibgdilkodjojaaGreatDoor.RX
open Go.RowKit
section
variable {P:Program} {F0:Fz} {w0:Pt P} {B:Env} {F:Fz} {M:Mem} {L:Boxes} {w:World} {a:Act} {get:Operand → Option D} {Γ:Nat → Option TI}
theorem ev_boxArr {α:Type} {d:α} {enc:α → List D} {l:List α} {t m z:Nat} {x:Operand} (hd:Rep F w B (.arr d enc l) (a.eval x)) {o:Oper} (ho:o.op = .box t x):OutOK P F w B M a o (.arow t z m (.arr d enc l)):=by
 generalize hv:a.eval x = vx at hd
 cases hd with
 | arr _ _ _ vs hg h =>
  refine ⟨vs,h,?_⟩
  unfold execOp
  simp only [ho,hv,Instr.box,Sem.run_bind,Result.andThen_ok,Sem.run_pure,newVar,newRow,run_newObj]
  rfl
theorem ev_loadArr (hΓ:ΓOK P Γ) (hb:Base F0 w0 B F M w) (hL:RowsIn M L) {t:Nat} {ti:TI} (ht:Γ t = some ti) {x:Operand} {k tt:Nat} {m:Bool} {α:Type} {dz:α} {enc:α → List D} {l:List α} (hl:L.lookup k = some (tt,[.rowc m dz enc l])) {n:Int} {z off mm es:Nat}
  (hx:Rep F w B (.elm k n z off) (a.eval x)) (h:(enc dz).length = es ∧ z = es ∧ n = 0 ∧ off = 0 ∧ ti.size = mm * es ∧ ti.agg = true) (hlen:l.length = mm) {o:Oper} (ho:o.op = .load t x):OutOK P F w B M a o (.val (.arr dz enc l)):=by
 obtain ⟨i,de,zz,hi,hd,hz,hz1,hz2,hz3,hsz,hag,hk⟩:=tiOf_spec (hΓ _ _ ht).1
 obtain ⟨h1,rfl,rfl,rfl,h2,h3⟩:=h
 obtain ⟨p,n0,cap,hB,hrow⟩:=hb.row' (hL _ _ _ _ _ _ _ hl)
 obtain ⟨hn0,hpos,hge,xs,hxs,hown,_⟩:=hrow
 generalize hv:a.eval x = vx at hx
 cases hx with
 | elm _ _ _ _ g nn cap' hB' =>
  rw [hB] at hB'; cases hB'
  refine ⟨.agg xs.toArray,?_,.arr _ _ _ xs ⟨hpos,hge⟩ hxs⟩
  have hxl:xs.length = ti.size:=by rw [hown.1,hn0,hlen,h1,h2]
  unfold execOp
  simp only [ho,hv,Instr.loadAt,Instr.sureAddr,loadVar,Sem.run_bind,Sem.run_pure,Result.andThen_ok,run_isAgg' hd,hag,h3,if_true,run_sizeOf' hi,hsz]
  have:=run_loadCells_list (P:=P) w ⟨g,0,none⟩ xs (fun j v hj=>by
   rw [add_eq,Nat.zero_add]; exact hown.cells hj)
  rw [hxl] at this
  simp [this]
theorem ev_fill (hΓ:ΓOK P Γ) (hb:Base F0 w0 B F M w) {t:Nat} {ti:TI} (ht:Γ t = some ti) {x y:Operand} {k:Nat} {n:Int} {z off es m:Nat} {d:D} (hx:Rep F w B (.elm k n z off) (a.eval x)) (hy:Rep F w B d (a.eval y))
  (h:z = es ∧ n = 0 ∧ off = 0 ∧ ti.size = m * es ∧ d.noOwn = true) {o:Oper} (ho:o.op = .store t x y):OutOK P F w B M a o (.fill k es m d):=by
 obtain ⟨i,de,zz,hi,hd,hz,hz1,hz2,hz3,hsz,hag,hk⟩:=tiOf_spec (hΓ _ _ ht).1
 obtain ⟨rfl,rfl,rfl,h2,h3⟩:=h
 have hcells:=(hy.bare (B':=NB) h3).cells
 refine ⟨(a.eval y).cells.toList,hcells,fun t' α d0 enc l hm hz0 hlm hul hfl hpos=>?_⟩
 obtain ⟨p,n0,cap,hB,hrow⟩:=hb.row' hm
 obtain ⟨hnl,_,hge,xs,hxs,hown,_⟩:=hrow
 generalize hv:a.eval x = vx at hx
 cases hx with
 | elm _ _ _ _ g nn cap' hB' =>
  rw [hB] at hB'; cases hB'
  rcases hown.2 with ⟨hp,_⟩ | ⟨g',cur,fz,hp,hh,hfz,hnc,hcm,hcs,htk⟩
  ·cases hp
  ·cases hp
   refine ⟨g,n0,cap,cur,fz,hB,hh,?_⟩
   have hone:∀ u ∈ (a.eval y).cells.toList,u.oneCell' = true:=RepL.all_flat hcells hfl
   have hle:m * z ≤ cur.size:=by
    rw [hcs,hz0]
    exact Nat.mul_le_mul_right _ (by omega)
   have hst:=run_storeCells_fz (P:=P) g 0 t' fz (a.eval y).cells.toList 0 cur w hh hfz (by rw [hul]; omega) hone
   unfold execOp
   simp only [ho,hv,Instr.storeAt,Instr.sureAddr,Sem.run_bind,Sem.run_pure,Result.andThen_ok,storeVar,run_sizeOf' hi,hsz,Int.toNat_zero,Nat.zero_mul,Nat.add_zero]
   have hsize:(a.eval y).cells.size = ti.size:=by rw [h2,← hul]; simp
   simp only [hsize,ne_eq,not_true_eq_false,if_false,Sem.run_bind,Sem.run_pure,Result.andThen_ok]
   rw [hst]
   simp [setVals]
theorem ev_turn (hΓ:ΓOK P Γ) (hb:Base F0 w0 B F M w) {t:Nat} {ti:TI} (ht:Γ t = some ti) {x y:Operand} {k off ty es m:Nat} {ds:List D} {α:Type} {d:α} {enc:α → List D} {l:List α} (hx:Rep F w B (.own k off) (a.eval x)) (hy:Rep F w B (.arr d enc l) (a.eval y))
  (hl:M k ty ds) (h:off = 0 ∧ ds.length = m * es ∧ ti.size = m * es) {o:Oper} (ho:o.op = .store t x y):OutOK P F w B M a o (.turn k es m (.arr d enc l)):=by
 obtain ⟨i,de,z,hi,hd,hz,hz1,hz2,hz3,hsz,hag,hk⟩:=tiOf_spec (hΓ _ _ ht).1
 obtain ⟨rfl,h1,h2⟩:=h
 have hcells:=(hy.bare (B':=NB) rfl).cells
 refine ⟨(a.eval y).cells.toList,hcells,fun hul hfl=>?_⟩
 generalize hv:a.eval x = vx at hx
 cases hx with
 | own _ _ b hB =>
  obtain ⟨vs,hr,hfl0,hh,hn,hnf⟩:=hb.box' hl hB
  have hlen:=RepL.length hr
  refine ⟨b,ty,ds,vs.toArray,hB,hl,hh,by simp; omega,hnf,?_⟩
  have hone:∀ u ∈ (a.eval y).cells.toList,u.oneCell' = true:=RepL.all_flat hcells hfl
  have hst:=run_storeCells_at (P:=P) b 0 ty (a.eval y).cells.toList 0 vs.toArray w hh (by rw [hul]; simp; omega) hone
  unfold execOp
  simp only [ho,hv,Instr.storeAt,Instr.sureAddr,Sem.run_bind,Sem.run_pure,Result.andThen_ok,storeVar,run_sizeOf' hi,hsz]
  have hsize:(a.eval y).cells.size = ti.size:=by rw [h2,← hul]; simp
  simp only [hsize,ne_eq,not_true_eq_false,if_false,Sem.run_bind,Sem.run_pure,Result.andThen_ok]
  rw [hst]
  have hd0:vs.drop (a.eval y).cells.toList.length = []:=List.drop_eq_nil_of_le (by omega)
  simp only [List.toList_toArray,Nat.add_zero,Nat.zero_add,List.take_zero,List.nil_append,hd0,List.append_nil]
  rfl
theorem ev_indexElm (hΓ:ΓOK P Γ) {t:Nat} {ti:TI} (ht:Γ t = some ti) {x y:Operand} {k:IntKind} {n n0:Int} {m es z:Nat} {ea:Bool} {key off:Nat}
  (hx:Rep F w B (.elm key n0 z off) (a.eval x)) (hy:Rep F w B (.val (.int k n)) (a.eval y)) (hk:ti.kind = .array m es ea) (h:n0 = 0 ∧ off = 0 ∧ z = es)
  (hc:0 ≤ n ∧ n < (m:Int)) {o:Oper} (ho:o.op = .indexAddr t x y):OutOK P F w B M a o (.val (.elm key n es 0)):=by
 obtain ⟨i,de,zz,hi,hde,hz,hz1,hz2,hz3,hsz,hag,hkd⟩:=tiOf_spec (hΓ _ _ ht).1
 rw [hk] at hkd
 obtain ⟨e,rfl,hse⟩:=kind_array hkd
 obtain ⟨rfl,rfl,rfl⟩:=h
 generalize hv:a.eval x = vx at hx
 generalize hu:a.eval y = vy at hy
 cases hy with
 | val _ _ =>
  cases hx with
  | elm _ _ _ _ b nn cap hB =>
   refine ⟨.pointer (some ⟨b,n.toNat * z + 0,none⟩),?_,.elm _ _ _ _ b nn cap hB⟩
   unfold execOp
   simp only [ho,hv,hu,Instr.indexAt,Instr.sureAddr,asIntOf,Sem.run_bind,run_underlying hde,Result.andThen_ok,Sem.run_pure,Sem.run_ite,if_pos hc,(szOf_spec hse).1,add_eq,Int.toNat_zero,Nat.zero_mul,Nat.zero_add,Nat.add_zero]
theorem ev_indexArrV (hΓ:ΓOK P Γ) {t:Nat} {ti:TI} (ht:Γ t = some ti) {x y:Operand} {k:IntKind} {n:Int} {m es:Nat} {ea:Bool} {α:Type} {dz:α} {enc:α → List D} {l:List α} {d:D}
  (hx:Rep F w B (.arr dz enc l) (a.eval x)) (hy:Rep F w B (.val (.int k n)) (a.eval y)) (hk:ti.kind = .array m es ea) (hes:(enc dz).length = es) (hp:partOf ea es 0 (enc (l[n.toNat]?.getD dz)) = some d)
  (hc:0 ≤ n ∧ n < (m:Int)) (hlen:l.length = m) {o:Oper} (ho:o.op = .index t x y):OutOK P F w B M a o (.val d):=by
 obtain ⟨i,de,zz,hi,hde,hz,hz1,hz2,hz3,hsz,hag,hkd⟩:=tiOf_spec (hΓ _ _ ht).1
 rw [hk] at hkd
 obtain ⟨e,rfl,hse⟩:=kind_array hkd
 generalize hv:a.eval x = vx at hx
 generalize hu:a.eval y = vy at hy
 cases hy with
 | val _ _ =>
  cases hx with
  | arr _ _ _ vs hg h =>
   have hn:n.toNat < l.length:=by omega
   have hr:=RepL.flatMap_get (fun x=>(hg.2 x).1) l vs h n.toNat _ (List.getElem?_eq_getElem hn)
   rw [List.getElem?_eq_getElem hn] at hp
   simp only [Option.getD_some] at hp
   have hvl:vs.length = l.length * (enc dz).length:=by have:=RepL.length h; rw [flatMap_length (fun x=>(hg.2 x).1)] at this; omega
   have hle:n.toNat * es + es ≤ vs.length:=by
    rw [hvl,hes,← Nat.succ_mul]; exact Nat.mul_le_mul_right _ hn
   have key:∃ v,(part e vs.toArray (n.toNat * es)).run P w = .ok v w ∧ Rep F w NB d v:=by
    rw [hes] at hr
    unfold part
    simp only [Sem.run_bind,(szOf_spec hse).2,Result.andThen_ok]
    unfold partOf at hp
    cases hb:ea
    ·rw [hb] at hp
     simp only [Bool.false_eq_true,if_false] at hp ⊢
     obtain ⟨v,hv',hr'⟩:=hr.get 0 hp
     refine ⟨v,?_,hr'⟩
     rw [List.getElem?_take] at hv'
     split at hv'
     ·rw [List.getElem?_drop,Nat.add_zero] at hv'
      simp [hv']
     ·cases hv'
    ·rw [hb] at hp
     simp only [if_true] at hp ⊢
     split at hp
     ·cases hp
      refine ⟨.agg ((vs.drop (n.toNat * es)).take es).toArray,?_,?_⟩
      ·simp only [Sem.run_bind,(szOf_spec hse).1,Result.andThen_ok,Sem.run_pure]
       congr 2
       apply Array.ext'
       simp [List.extract_eq_take_drop]
      ·have h9:(enc l[n.toNat]).length = es:=by rw [(hg.2 _).1,hes]
       rw [List.drop_zero,← h9,List.take_length]
       rw [h9]
       exact .agg _ _ hr
     ·cases hp
   obtain ⟨v,hrun,hrep⟩:=key
   refine ⟨v,?_,hrep.lift (fun _=>rfl)⟩
   unfold execOp
   simp only [ho,hv,hu,Instr.index,asIntOf,Sem.run_bind,run_underlying hde,Result.andThen_ok,Sem.run_pure,Sem.run_ite,if_pos hc,(szOf_spec hse).1]
   rw [hrun]; rfl
theorem ev_sliceArr (hΓ:ΓOK P Γ) (hb':Base F0 w0 B F M w) (hL:RowsIn M L) {t:Nat} {ti:TI} (ht:Γ t = some ti) {x:Operand} {k tt:Nat} {α:Type} {dz:α} {enc:α → List D} {l:List α} (hl':L.lookup k = some (tt,[.rowc true dz enc l])) {n:Int} {z off:Nat} {lo hi:Option Operand} {dlo dhi:Option D} {m es:Nat} {ea:Bool}
  (hg:GetOK F w B a get) (hx:Rep F w B (.elm k n z off) (a.eval x)) (hlo:omap get lo = some dlo) (hhi:omap get hi = some dhi) (hk:ti.kind = .array m es ea) (hh:(enc dz).length = es ∧ z = es ∧ n = 0 ∧ off = 0) (hlm:l.length = m)
  (hb:boundsOK l.length dlo dhi) {o:Oper} (ho:o.op = .slice t x lo hi none):OutOK P F w B M a o (.val (.recs dz enc ((l.drop (lowOf dlo)).take (highOf l.length dhi - lowOf dlo)))):=by
 obtain ⟨i,de,zz,hi',hde,hz,hz1,hz2,hz3,hsz,hag,hkd⟩:=tiOf_spec (hΓ _ _ ht).1
 rw [hk] at hkd
 obtain ⟨e,rfl,hse⟩:=kind_array hkd
 obtain ⟨hlen,rfl,rfl,rfl⟩:=hh
 subst hlm
 obtain ⟨p,n0,cap,hB,hrow⟩:=hb'.row' (hL _ _ _ _ _ _ _ hl')
 obtain ⟨h1,h2,h3⟩:=run_bounds (P:=P) (isSlice:=false) (Nat.le_refl l.length) hg hlo hhi hb w
 generalize hv:a.eval x = vx at hx
 cases hx with
 | elm _ _ _ _ g nn cap' hB' =>
  rw [hB] at hB'; cases hB'
  have hrec:=hrow.recs (B:=B)
  rw [show rowVal (some g) n0 cap = .slice (some ⟨g,0,none⟩) n0 cap from rfl] at hrec
  generalize hlo':lowOf dlo = lo' at *
  generalize hhi':highOf l.length dhi = hi' at *
  have hl:((l.drop lo').take (hi' - lo')).length = hi' - lo':=by simp; omega
  have hget:∀ i,i < hi' - lo' → ((l.drop lo').take (hi' - lo'))[i]? = l[lo' + i]?:=by
   intro i hi; rw [List.getElem?_take,if_pos hi,List.getElem?_drop]
  by_cases hc:l.length = lo'
  ·refine ⟨.slice (some ⟨g,0,none⟩) (hi' - lo') (l.length - lo'),?_,?_⟩
   ·unfold execOp
    simp only [ho,hv,Instr.sliceAt,Instr.sureAddr,Sem.run_bind,run_underlying hde,Result.andThen_ok,Option.map_none,Sem.run_pure]
    rw [h1]
    simp [(szOf_spec hse).1,hc]
   ·have h0:hi' - lo' = 0:=by omega
    rw [h0,List.take_zero,show l.length - lo' = 0 by omega]
    exact .recsNil _ _ _
  ·refine ⟨.slice (some ⟨g,0 + lo' * z,none⟩) (hi' - lo') (l.length - lo'),?_,?_⟩
   ·unfold execOp
    simp only [ho,hv,Instr.sliceAt,Instr.sureAddr,Sem.run_bind,run_underlying hde,Result.andThen_ok,Option.map_none,Sem.run_pure]
    rw [h1]
    simp [(szOf_spec hse).1,hc,add_eq]
   ·generalize hvv:Value.slice (some ⟨g,0,none⟩) n0 cap = vv at hrec
    cases hrec with
    | recsNil _ _ p=>simp only [List.length_nil] at hc h3; omega
    | recs _ _ _ g' off' cap'' size vs hsize hh1 hh2 hh3 hcap =>
     cases hvv
     have hes:size = z:=by rw [hsize,hlen]
     subst hes
     have:=Rep.recs (F:=F) (w:=w) (B:=B) dz enc ((l.drop lo').take (hi' - lo')) g (0 + lo' * size) (l.length - lo') size (fun i=>vs (lo' + i)) hsize
      (fun i hi=>hh1 _ (by omega)) (fun i hi=>by rw [hget i (by omega)]; exact hh2 _ (by omega))
      (fun i j hi hj=>by
       have:=hh3 (lo' + i) j (by omega) hj
       rwa [Nat.add_mul,← Nat.add_assoc] at this) (by omega)
     rwa [hl] at this
theorem ev_eqArr (hΓ:ΓOK P Γ) {op:BinOp} {t yt:Nat} {ti:TI} (ht:Γ t = some ti) (hk:ti.eqs ≠ []) {x y:Operand} {α β:Type} {d:α} {enc:α → List D} {l:List α} {d':β} {enc':β → List D} {l':List β} (hx:Rep F w B (.arr d enc l) (a.eval x)) (hy:Rep F w B (.arr d' enc' l') (a.eval y))
  {neg:Bool} (hop:(op = .eql ∧ neg = false) ∨ (op = .neq ∧ neg = true)) {o:Oper} (ho:o.op = .binOp op t x y yt):OutOK P F w B M a o (.known (EqOb ti.eqs neg (l.flatMap enc) (l'.flatMap enc'))):=by
 have heq:=(hΓ _ _ ht).2 hk
 intro r hr
 obtain ⟨e,hc,rfl⟩:=hr
 generalize hv:a.eval x = vx at hx
 generalize hu:a.eval y = vy at hy
 cases hx with
 | arr _ _ _ vs _ h =>
  cases hy with
  | arr _ _ _ us _ h' =>
   obtain ⟨h1,h2⟩:=heq F w w NB NB _ _ vs us e h h' hc
   refine ⟨.bool (xor neg e),?_,.val _ rfl⟩
   unfold execOp
   rcases hop with ⟨rfl,rfl⟩ | ⟨rfl,rfl⟩
   ·simp only [ho,hv,hu,Sem.run_bind,eqGuard_operands .eql t x y _ _ _ _ _ _ h1 (.inl rfl),Result.andThen_ok,Go.binOp,h2,Sem.run_pure,Bool.false_xor]
   ·simp only [ho,hv,hu,Sem.run_bind,eqGuard_operands .neq t x y _ _ _ _ _ _ h1 (.inr rfl),Result.andThen_ok,Go.binOp,h2,Sem.run_pure,Bool.true_xor]
end
end Go.Proofs.YtibgdilkodjojaaGreatDoor.RX
