import Derived.Test.YtpmmhhmhckpnfaaDoorQM24b
import Derived.Test.YtpmmhhmhckpnfaaDoorQPlain
set_option linter.all false
namespace Go.Proofs.YtpmmhhmhckpnfaaDoor.M
open Go.RowKit Go.Proofs.YtpmmhhmhckpnfaaDoor.RX
set_option maxRecDepth 100000
abbrev Mi:=List (MK×Int)
abbrev wD(w:aC):List D:=[.recs (α:=Bs) [] aO w.ai,.aI none true (α:=af) (af.mk []) ak w.aH]
abbrev mD(m:Mi):D:=.dH none false (α:=Int) 0 jQ m
abbrev fD(a b c:Nat):D:=.fn 30 [.own a 0,.own b 0,.own c 0]
abbrev bx(a b c d:Nat)(w:aC)(m:Mi):ay:=[(a,51,wD w),(b,58,[.mp d]),(c,68,[fD a b c]),(d,58,[mD m])]
abbrev bxL(w:aC)(m:Mi):ay:=bx 1000000 1000001 1000002 1000003 w m
def iL(w:aC)(s:Bs):Ls:=((bn w.aH (.inl s)).getD (af.mk [])).f_l
def bump(m:Mi)(t:Bs):Mi:=eU m (.inl t) (IntKind.wrap .i64 (((bn m (.inl t)).getD 0)+1))
def sO(R:Bs->Mi->Option Mi):Ls->Mi->Option Mi
 |[],m=>some m
 |t::r,m=>if(((bn (bump m t) (.inl t)).getD 0)==1)=true then(R t (bump m t)).bind (sO R r) else sO R r (bump m t)
def ou(w:aC):Nat->Bs->Mi->Option Mi
 |0,_,_=>none
 |k+1,s,m=>if decide ((iL w s).length<=limit)=true then sO (ou w k) (iL w s) m else none
def CW(w:aC)(s:Bs)(m o:Mi):Prop:=cY Tryd.prog 30 [.str s,.own 1000000 0,.own 1000001 0,.own 1000002 0] (bxL w m) (.tup []) (bxL w o)
abbrev K30(l:Ls)(i:Int):List (Nat×D):=[(1,.own 1000000 0),(2,.own 1000001 0),(3,.own 1000002 0),(11,.recs (α:=Bs) [] aO l),(12,.val (.int .i64 (List.length l:Int))),(13,.val (.int .i64 i))]
theorem EN{i:Nat}(h:i<=140737488355328):IntKind.wrap .i64 ((i:Int)+1)=((i+1:Nat):Int):=by rw[PL.oS _ (by omega) (by omega)];rfl
theorem Gv(w:aC)(R:Bs->Mi->Option Mi)(hR:∀s m o,R s m=some o->CW w s m o)(l:Ls)(hlen:l.length<=limit){F0:Fz}{w0:Pt Tryd.prog}{Q:Exit->Act->World->Prop} :
  ∀(q i:Nat),l.length-i=q->i<=l.length->∀(m o:Mi),sO R (l.drop i) m=some o->To 29 F0 w0 [] (bxL w o) (.exit 0) Q ->
   WL Tryd.prog 29 F0 w0 (K30 l (i:Int)) (bxL w m) (cI (cI (cB (cF Tryd.f30)))) Q:=by
 have hlim:limit=140737488355328:=rfl
 intro q
 induction q with
 |zero =>
  intro i hq hi m o h hQ
  have hi:i=l.length:=by omega
  have hd:l.drop i=[]:=List.drop_eq_nil_of_le (by omega)
  rw[hd] at h
  refine WL.round ?_
  refine Wp.seq ?_
  refine Wp.region hΓ [] [] [] [1,2,3,11,12,13,14] [1000000,1000001,1000002,1000003] (K':=K30 l (i:Int)++[(14,.val (.bool (decide ((i:Int)<(List.length l:Int)))))]) (L':=bxL w m) (ob:=[]) (by kernel_rfl) ax.nil ?_
  refine To.aj ?_
  refine Wp.seq ?_
  refine Wp.cond (b:=decide ((i:Int)<(List.length l:Int))) (by kernel_rfl) (fun hb=>?_) (fun hb=>?_)
  ·have:=of_decide_eq_true hb;omega
  ·refine Wp.exit ?_
   refine To.aZ ?_
   refine To.aZ ?_
   refine To.keep (kk:=[]) (kl:=[1000000,1000001,1000002,1000003]) (K':=[]) (L':=bxL w m) (by kernel_rfl) (by kernel_rfl) ?_
   cases h
   exact hQ
 |succ q ih =>
  intro i hq hi m o h hQ
  have hlt:i<l.length:=by omega
  have hd:l.drop i=l[i]::l.drop (i+1):=List.drop_eq_getElem_cons hlt
  have hat:((l)[Int.toNat (i:Int)]?.getD [])=l[i]:=by rw[Int.toNat_natCast,List.getElem?_eq_getElem hlt];rfl
  rw[hd] at h
  refine WL.round ?_
  refine Wp.seq ?_
  refine Wp.region hΓ [] [] [] [1,2,3,11,12,13,14] [1000000,1000001,1000002,1000003] (K':=K30 l (i:Int)++[(14,.val (.bool (decide ((i:Int)<(List.length l:Int)))))]) (L':=bxL w m) (ob:=[]) (by kernel_rfl) ax.nil ?_
  refine To.aj ?_
  refine Wp.seq ?_
  refine Wp.cond (b:=decide ((i:Int)<(List.length l:Int))) (by kernel_rfl) (fun hb=>?_) (fun hb=>?_)
  ·have next:∀(m1:Mi),sO R (l.drop (i+1)) m1=some o->Wp Tryd.prog 29 F0 w0 (K30 l (i:Int)) (bxL w m1) (cB (cB (cB (cI (cI (cB (cF Tryd.f30))))))) (Exit.then (fun a w=>Lp w0.rnd Tryd.prog (cI (cI (cB (cF Tryd.f30)))) Q a w) Q):=by
    intro m1 h1
    refine Wp.region hΓ [] [] [] [1,2,3,11,12,13] [1000000,1000001,1000002,1000003] (K':=K30 l (IntKind.wrap .i64 ((i:Int)+1))) (L':=bxL w m1) (ob:=[]) (by kernel_rfl) ax.nil ?_
    rw[EN (by omega)]
    refine To.again ?_
    exact ih (i+1) (by omega) (by omega) m1 o h1 hQ
   refine Wp.skip ?_
   refine To.aj ?_
   refine Wp.seq ?_
   refine Wp.block ?_
   refine Wp.seq ?_
   refine Wp.region hΓ [] [] [] [1,2,3,6,11,12,13] [1000000,1000001,1000002,1000003] (K':=[(1,.own 1000000 0),(2,.own 1000001 0),(3,.own 1000002 0),(6,.str ((l)[Int.toNat (i:Int)]?.getD [])),(11,.recs (α:=Bs) [] aO l),(12,.val (.int .i64 (List.length l:Int))),(13,.val (.int .i64 (i:Int)))]) (L':=bxL w m) (ob:=[decide (0<=(i:Int)/\(i:Int)<(List.length l:Int))=true]) (by kernel_rfl) (ax.cons (decide_eq_true (by omega)) ax.nil) ?_
   rw[hat]
   obtain⟨t,ht⟩:∃t,l[i]=t:=⟨_,rfl⟩
   rw[ht] at h ⊢
   refine To.aj ?_
   refine Wp.seq ?_
   refine Wp.region hΓ [] [(2,.val (.int .i64 ((bn m (.inl t)).getD 0))),(4,mD (bump m t))] [] [1,2,3,6,11,12,13] [1000000,1000001,1000002,1000003] (K':=[(1,.own 1000000 0),(2,.own 1000001 0),(3,.own 1000002 0),(6,.str t),(11,.recs (α:=Bs) [] aO l),(12,.val (.int .i64 (List.length l:Int))),(13,.val (.int .i64 (i:Int)))]) (L':=bxL w (bump m t))
    (ob:=[(true=true->iY false jQ m (.inl t) [.val (.int .i64 0)] (.val (.int .i64 ((bn m (.inl t)).getD 0)))),(∃l':Mi,(mD (bump m t):D)=.dH none false (α:=Int) 0 jQ l'/\qC jQ m (.inl t) [.val (.int .i64 (IntKind.wrap .i64 (((bn m (.inl t)).getD 0)+1)))] l')]) (by kernel_rfl)
    (ax.cons (fun _=>⟨0,bf.of_eq (by kernel_rfl),by kernel_rfl⟩) (ax.cons ⟨_,rfl,IntKind.wrap .i64 (((bn m (.inl t)).getD 0)+1),bf.of_eq (by kernel_rfl),rfl⟩ ax.nil)) ?_
   refine To.aj ?_
   refine Wp.seq ?_
   refine Wp.region hΓ [] [(2,.val (.int .i64 ((bn (bump m t) (.inl t)).getD 0)))] [] [1,2,3,6,11,12,13,24] [1000000,1000001,1000002,1000003] (K':=[(1,.own 1000000 0),(2,.own 1000001 0),(3,.own 1000002 0),(6,.str t),(11,.recs (α:=Bs) [] aO l),(12,.val (.int .i64 (List.length l:Int))),(13,.val (.int .i64 (i:Int))),(24,.val (.bool (((bn (bump m t) (.inl t)).getD 0)==1)))]) (L':=bxL w (bump m t))
    (ob:=[(true=true->iY false jQ (bump m t) (.inl t) [.val (.int .i64 0)] (.val (.int .i64 ((bn (bump m t) (.inl t)).getD 0))))]) (by kernel_rfl) (ax.cons (fun _=>⟨0,bf.of_eq (by kernel_rfl),by kernel_rfl⟩) ax.nil) ?_
   refine To.aj ?_
   rw[sO] at h
   refine Wp.cond (b:=(((bn (bump m t) (.inl t)).getD 0)==1)) (by kernel_rfl) (fun hb2=>?_) (fun hb2=>?_)
   ·replace h:=iZ hb2 h
    obtain⟨m1,h1,h⟩:=aG h
    refine Wp.region hΓ [] [] [(2,⟨[(1000000,1000000),(1000001,1000001),(1000002,1000002),(1000003,1000003)],[(1000000,1000000),(1000001,1000001),(1000002,1000002),(1000003,1000003)],[.str t,.own 1000000 0,.own 1000001 0,.own 1000002 0],bxL w (bump m t),.tup [],bxL w m1⟩)] [1,2,3,11,12,13] [1000000,1000001,1000002,1000003] (K':=K30 l (i:Int)) (L':=bxL w m1)
     (ob:=[qb (cY Tryd.prog) 30 [.str t,.own 1000000 0,.own 1000001 0,.own 1000002 0] [some (51,wD w),some (58,[.mp 1000003]),some (68,[fD 1000000 1000001 1000002]),some (58,[mD (bump m t)])] ⟨[(1000000,1000000),(1000001,1000001),(1000002,1000002),(1000003,1000003)],[(1000000,1000000),(1000001,1000001),(1000002,1000002),(1000003,1000003)],[.str t,.own 1000000 0,.own 1000001 0,.own 1000002 0],bxL w (bump m t),.tup [],bxL w m1⟩]) (by kernel_rfl) (ax.cons ⟨hR _ _ _ h1,by kernel_rfl,by kernel_rfl⟩ ax.nil) ?_
    refine To.bT ?_
    refine To.aj ?_
    exact next m1 h
   ·replace h:=wO hb2 h
    refine Wp.skip ?_
    refine To.bT ?_
    refine To.aj ?_
    refine Wp.keep (kk:=[1,2,3,11,12,13]) (kl:=[1000000,1000001,1000002,1000003]) (K':=K30 l (i:Int)) (L':=bxL w (bump m t)) (by kernel_rfl) (by kernel_rfl) ?_
    exact next _ h
  ·have:=of_decide_eq_false hb;omega
theorem CZ(w:aC):∀(k:Nat)(s:Bs)(m o:Mi),ou w k s m=some o->CW w s m o:=by
 have hlim:limit=140737488355328:=rfl
 intro k
 induction k with
 |zero=>intro s m o h;cases h
 |succ k ih =>
  intro s m o h
  rw[ou] at h
  obtain⟨hc,h⟩:=bg h
  have hlen:=of_decide_eq_true hc
  refine pO (fn:=Tryd.f30) (by kernel_rfl) rfl (by kernel_rfl) (Nat.le_of_ble_eq_true (by kernel_rfl)) fun F0 w0=>?_
  refine Wp.keep (kk:=[0,1,2,3]) (kl:=[1000000,1000001,1000002,1000003]) (K':=[(0,.str s),(1,.own 1000000 0),(2,.own 1000001 0),(3,.own 1000002 0)]) (L':=bxL w m) (by kernel_rfl) (by kernel_rfl) ?_
  refine Wp.seq ?_
  refine Wp.region hΓ [] [(3,.agg [.recs (α:=Bs) [] aO (iL w s)])] [] [1,2,3,11,12,13] [1000000,1000001,1000002,1000003] (K':=K30 (iL w s) 0) (L':=bxL w m)
   (ob:=[(true=true->iY true ak w.aH (.inl s) [.val (.slice none 0 0)] (.agg [.recs (α:=Bs) [] aO (iL w s)]))]) (by kernel_rfl) (ax.cons (fun _=>⟨(af.mk []),uU (ds:=[.val (.slice none 0 0)]) (es:=[.recs (α:=Bs) [] aO []]) (by kernel_rfl) (.cons (.zero _ _) .nil) (by kernel_rfl),by kernel_rfl⟩) ax.nil) ?_
  refine To.aj ?_
  refine Wp.block ?_
  refine Wp.dE ?_
  refine Gv w (ou w k) ih (iL w s) hlen _ 0 rfl (Nat.zero_le _) m o h ?_
  refine To.cH ?_
  refine To.fin ?_
  exact To.AB hΓ [1000000,1000001,1000002,1000003] (by kernel_rfl) (by kernel_rfl)
def oK(m:Mi)(out:Ls):Ls->Option (Ls)
 |[]=>some out
 |t::r=>if(decide (((bn m (.inl t)).getD 0)>0))=true then(if(decide ((List.length out+List.length ([t]:Ls))*(16+1)<=limit))=true then oK m (out++([t]:Ls)) r else none) else oK m out r
def eY(n:Nat)(a0:aC)(a1:Bs):Option (Ls) :=
 if decide (a0.ai.length<=limit)=true then(ou a0 n a1 []).bind fun m=>oK m [] a0.ai else none
abbrev K21(l:Ls)(i:Int):List (Nat×D):=[(5,.own 5 0),(7,.row 1007),(16,.recs (α:=Bs) [] aO l),(17,.val (.int .i64 (List.length l:Int))),(18,.val (.int .i64 i))]
abbrev L21(m:Mi)(out:Ls):ay:=[(5,58,[.mp 10]),(10,58,[mD m]),(1007,9,[.aR false (α:=Bs) [] aO out])]
theorem FW(m:Mi)(l:Ls)(hlen:l.length<=limit){F0:Fz}{w0:Pt Tryd.prog}{Q:Exit->Act->World->Prop} :
  ∀(q i:Nat),l.length-i=q->i<=l.length->∀(out o:Ls),oK m out (l.drop i)=some o->To 32 F0 w0 [(7,.row 1007)] [(1007,9,[.aR false (α:=Bs) [] aO o])] (.exit 0) Q ->
   WL Tryd.prog 32 F0 w0 (K21 l (i:Int)) (L21 m out) (cI (cI (cB (cA (cB (cB (cB (cB (cB (cB (cF Tryd.f21))))))))))) Q:=by
 have hlim:limit=140737488355328:=rfl
 intro q
 induction q with
 |zero =>
  intro i hq hi out o h hQ
  have hd:l.drop i=[]:=List.drop_eq_nil_of_le (by omega)
  rw[hd] at h
  refine WL.round ?_
  refine Wp.seq ?_
  refine Wp.region hΓ [] [] [] [5,7,16,17,18,19] [5,10,1007] (K':=K21 l (i:Int)++[(19,.val (.bool (decide ((i:Int)<(List.length l:Int)))))]) (L':=L21 m out) (ob:=[]) (by kernel_rfl) ax.nil ?_
  refine To.aj ?_
  refine Wp.seq ?_
  refine Wp.cond (b:=decide ((i:Int)<(List.length l:Int))) (by kernel_rfl) (fun hb=>?_) (fun hb=>?_)
  ·have:=of_decide_eq_true hb;omega
  ·refine Wp.exit ?_
   refine To.aZ ?_
   refine To.aZ ?_
   refine To.keep (kk:=[7]) (kl:=[1007]) (K':=[(7,.row 1007)]) (L':=[(1007,9,[.aR false (α:=Bs) [] aO out])]) (by kernel_rfl) (by kernel_rfl) ?_
   cases h
   exact hQ
 |succ q ih =>
  intro i hq hi out o h hQ
  have hlt:i<l.length:=by omega
  have hd:l.drop i=l[i]::l.drop (i+1):=List.drop_eq_getElem_cons hlt
  have hat:((l)[Int.toNat (i:Int)]?.getD [])=l[i]:=by rw[Int.toNat_natCast,List.getElem?_eq_getElem hlt];rfl
  rw[hd] at h
  refine WL.round ?_
  refine Wp.seq ?_
  refine Wp.region hΓ [] [] [] [5,7,16,17,18,19] [5,10,1007] (K':=K21 l (i:Int)++[(19,.val (.bool (decide ((i:Int)<(List.length l:Int)))))]) (L':=L21 m out) (ob:=[]) (by kernel_rfl) ax.nil ?_
  refine To.aj ?_
  refine Wp.seq ?_
  refine Wp.cond (b:=decide ((i:Int)<(List.length l:Int))) (by kernel_rfl) (fun hb=>?_) (fun hb=>?_)
  ·have next:∀(out1:Ls),oK m out1 (l.drop (i+1))=some o->Wp Tryd.prog 32 F0 w0 (K21 l (i:Int)) (L21 m out1) (cB (cB (cB (cI (cI (cB (cA (cB (cB (cB (cB (cB (cB (cF Tryd.f21)))))))))))))) (Exit.then (fun a w=>Lp w0.rnd Tryd.prog (cI (cI (cB (cA (cB (cB (cB (cB (cB (cB (cF Tryd.f21))))))))))) Q a w) Q):=by
    intro out1 h1
    refine Wp.region hΓ [] [] [] [5,7,16,17,18] [5,10,1007] (K':=K21 l (IntKind.wrap .i64 ((i:Int)+1))) (L':=L21 m out1) (ob:=[]) (by kernel_rfl) ax.nil ?_
    rw[EN (by omega)]
    refine To.again ?_
    exact ih (i+1) (by omega) (by omega) out1 o h1 hQ
   refine Wp.skip ?_
   refine To.aj ?_
   refine Wp.seq ?_
   refine Wp.block ?_
   refine Wp.seq ?_
   refine Wp.region hΓ [] [] [] [5,7,9,16,17,18] [5,10,1007] (K':=[(5,.own 5 0),(7,.row 1007),(9,.str ((l)[Int.toNat (i:Int)]?.getD [])),(16,.recs (α:=Bs) [] aO l),(17,.val (.int .i64 (List.length l:Int))),(18,.val (.int .i64 (i:Int)))]) (L':=L21 m out) (ob:=[decide (0<=(i:Int)/\(i:Int)<(List.length l:Int))=true]) (by kernel_rfl) (ax.cons (decide_eq_true (by omega)) ax.nil) ?_
   rw[hat]
   obtain⟨t,ht⟩:∃t,l[i]=t:=⟨_,rfl⟩
   rw[ht] at h ⊢
   refine To.aj ?_
   refine Wp.seq ?_
   refine Wp.region hΓ [] [(2,.val (.int .i64 ((bn m (.inl t)).getD 0)))] [] [5,7,9,16,17,18,25] [5,10,1007] (K':=[(5,.own 5 0),(7,.row 1007),(9,.str t),(16,.recs (α:=Bs) [] aO l),(17,.val (.int .i64 (List.length l:Int))),(18,.val (.int .i64 (i:Int))),(25,.val (.bool (decide (((bn m (.inl t)).getD 0)>0))))]) (L':=L21 m out)
    (ob:=[(true=true->iY false jQ m (.inl t) [.val (.int .i64 0)] (.val (.int .i64 ((bn m (.inl t)).getD 0))))]) (by kernel_rfl) (ax.cons (fun _=>⟨0,bf.of_eq (by kernel_rfl),by kernel_rfl⟩) ax.nil) ?_
   refine To.aj ?_
   rw[oK] at h
   refine Wp.cond (b:=(decide (((bn m (.inl t)).getD 0)>0))) (by kernel_rfl) (fun hb2=>?_) (fun hb2=>?_)
   ·replace h:=iZ hb2 h
    obtain⟨hc,h⟩:=bg h
    refine Wp.region hΓ [] [(2,.recs (α:=Bs) [] aO [t]),(3,.recs (α:=Bs) [] aO (out++([t]:Ls)))] [] [5,7,16,17,18] [5,10,29] (K':=[(5,.own 5 0),(7,.row 29),(16,.recs (α:=Bs) [] aO l),(17,.val (.int .i64 (List.length l:Int))),(18,.val (.int .i64 (i:Int)))]) (L':=[(5,58,[.mp 10]),(10,58,[mD m]),(29,9,[.aR false (α:=Bs) [] aO (out++([t]:Ls))])])
     (ob:=[(iC 1 [.str t] 1 (.recs (α:=Bs) [] aO ([t]))/\bP (.recs (α:=Bs) [] aO ([t]))),(decide ((List.length out+List.length ([t]:Ls))*(16+1)<=limit))=true,(oL [] aO out (List.flatMap aO ([t]:Ls)) (List.length ([t]:Ls)) (.recs (α:=Bs) [] aO (out++([t]:Ls)))/\bP (.recs (α:=Bs) [] aO (out++([t]:Ls))))]) (by kernel_rfl) (ax.cons (nD (by kernel_rfl) rfl (by kernel_rfl) (bp _)) (ax.cons hc (ax.cons (oQ rfl rfl (bp _)) ax.nil))) ?_
    refine To.pre (St.rename 29 1007 (by decide) (K':=K21 l (i:Int)) (L':=[(5,58,[.mp 10]),(10,58,[mD m]),(1007,9,[.aR false (α:=Bs) [] aO (out++([t]:Ls))])]) (by kernel_rfl) (by kernel_rfl) (by kernel_rfl)) ?_
    refine To.bT ?_
    refine To.aj ?_
    exact next _ h
   ·replace h:=wO hb2 h
    refine Wp.skip ?_
    refine To.bT ?_
    refine To.aj ?_
    refine Wp.keep (kk:=[5,7,16,17,18]) (kl:=[5,10,1007]) (K':=K21 l (i:Int)) (L':=L21 m out) (by kernel_rfl) (by kernel_rfl) ?_
    exact next _ h
  ·have:=of_decide_eq_false hb;omega
theorem jk(n:Nat)(w:aC)(s:Bs)(r:Ls)(h:eY n w s=some r):bq Tryd.prog 21 [.agg (wD w),.str s] (.recs (α:=Bs) [] aO r):=by
 have hlim:limit=140737488355328:=rfl
 unfold eY at h
 obtain⟨hc,h⟩:=bg h
 have hlen:=of_decide_eq_true hc
 obtain⟨m,hm1,h⟩:=aG h
 refine rX (fn:=Tryd.f21) (by kernel_rfl) rfl (by kernel_rfl) (Nat.le_of_ble_eq_true (by kernel_rfl)) fun F0 w0 _=>?_
 refine Wp.keep (kk:=[0,1]) (kl:=[]) (K':=[(0,.agg (wD w)),(1,.str s)]) (L':=[]) (by kernel_rfl) (by kernel_rfl) ?_
 refine Wp.seq ?_
 refine Wp.region hΓ [] [] [] [1,2] [2] (K':=[(1,.str s),(2,.own 2 0)]) (L':=[(2,51,wD w)]) (ob:=[]) (by kernel_rfl) ax.nil ?_
 refine To.aj ?_
 refine Wp.seq ?_
 refine Wp.region hΓ [] [(0,mD [])] [] [1,2,5] [2,5,10] (K':=[(1,.str s),(2,.own 2 0),(5,.own 5 0)]) (L':=[(2,51,wD w),(5,58,[.mp 10]),(10,58,[mD []])]) (ob:=[pP false jQ]) (by kernel_rfl) (ax.cons ⟨fun _=>rfl,fun _ _=>rfl⟩ ax.nil) ?_
 refine To.aj ?_
 refine Wp.seq ?_
 refine Wp.region hΓ [] [] [] [1,2,5,6] [2,5,6,10] (K':=[(1,.str s),(2,.own 2 0),(5,.own 5 0),(6,.own 6 0)]) (L':=[(2,51,wD w),(5,58,[.mp 10]),(6,68,[.val .nilFunc]),(10,58,[mD []])]) (ob:=[]) (by kernel_rfl) ax.nil ?_
 refine To.aj ?_
 refine Wp.seq ?_
 refine Wp.region hΓ [] [] [] [1,2,5,6] [2,5,6,10] (K':=[(1,.str s),(2,.own 2 0),(5,.own 5 0),(6,.own 6 0)]) (L':=bx 2 5 6 10 w []) (ob:=[]) (by kernel_rfl) ax.nil ?_
 refine To.aj ?_
 refine Wp.seq ?_
 refine Wp.region hΓ [] [] [(2,⟨[(1000000,2),(1000001,5),(1000002,6),(1000003,10)],[(1000000,2),(1000001,5),(1000002,6),(1000003,10)],[.str s,.own 1000000 0,.own 1000001 0,.own 1000002 0],bxL w [],.tup [],bxL w m⟩)] [2,5] [2,5,10] (K':=[(2,.own 2 0),(5,.own 5 0)]) (L':=[(2,51,wD w),(5,58,[.mp 10]),(10,58,[mD m])])
  (ob:=[qb (cY Tryd.prog) 30 [.str s,.own 2 0,.own 5 0,.own 6 0] [some (51,wD w),some (58,[.mp 10]),some (68,[fD 2 5 6]),some (58,[mD []])] ⟨[(1000000,2),(1000001,5),(1000002,6),(1000003,10)],[(1000000,2),(1000001,5),(1000002,6),(1000003,10)],[.str s,.own 1000000 0,.own 1000001 0,.own 1000002 0],bxL w [],.tup [],bxL w m⟩]) (by kernel_rfl) (ax.cons ⟨CZ w n s [] m hm1,by kernel_rfl,by kernel_rfl⟩ ax.nil) ?_
 refine To.aj ?_
 refine Wp.seq ?_
 refine Wp.region hΓ [] [] [] [2,5,7] [2,5,10] (K':=[(2,.own 2 0),(5,.own 5 0),(7,.val (.slice none 0 0))]) (L':=[(2,51,wD w),(5,58,[.mp 10]),(10,58,[mD m])]) (ob:=[]) (by kernel_rfl) ax.nil ?_
 refine To.aj ?_
 refine Wp.seq ?_
 refine Wp.seq ?_
 refine Wp.region hΓ [] [] [] [5,7,16,17,18] [5,10] (K':=[(5,.own 5 0),(7,.val (.slice none 0 0)),(16,.recs (α:=Bs) [] aO w.ai),(17,.val (.int .i64 (List.length w.ai:Int))),(18,.val (.int .i64 0))]) (L':=[(5,58,[.mp 10]),(10,58,[mD m])]) (ob:=[]) (by kernel_rfl) ax.nil ?_
 refine To.aj ?_
 refine Wp.block ?_
 refine Wp.pre (St.qo (t:=7) (k:=1007) (e:=9) (K':=K21 w.ai 0) (bp _) (by decide) (by kernel_rfl) (by kernel_rfl)) ?_
 refine Wp.keep (kk:=[5,7,16,17,18]) (kl:=[5,10,1007]) (K':=K21 w.ai 0) (L':=L21 m []) (by kernel_rfl) (by kernel_rfl) ?_
 refine Wp.dE ?_
 refine FW m w.ai hlen _ 0 rfl (Nat.zero_le _) [] r h ?_
 refine To.cH ?_
 refine To.aj ?_
 refine Wp.seq ?_
 refine Wp.region hΓ [] [] [] [4] [1007] (K':=[(4,.row 1007)]) (L':=[(1007,9,[.aR false (α:=Bs) [] aO r])]) (ob:=[]) (by kernel_rfl) ax.nil ?_
 refine To.aj ?_
 refine Wp.ret ?_
 refine To.pre (St.settle (ks:=[1007]) (kk:=[4]) (kl:=[1007]) (K':=[(4,.row 1007)]) (L':=[(1007,9,[.aR true (α:=Bs) [] aO r])]) (by kernel_rfl)) ?_
 refine To.pre (St.yr [4] (K':=[(4,.recs (α:=Bs) [] aO r)]) (by kernel_rfl)) ?_
 refine To.keep (kk:=[4]) (kl:=[]) (K':=[(4,.recs (α:=Bs) [] aO r)]) (L':=[]) (by kernel_rfl) (by kernel_rfl) ?_
 exact To.done hΓ (by kernel_rfl)
end Go.Proofs.YtpmmhhmhckpnfaaDoor.M
