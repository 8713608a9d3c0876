import Derived.Test.YtpmmhhmhckpnfaaGreatQM23a
import Derived.Test.YtpmmhhmhckpnfaaGreatQPlain
set_option linter.all false
namespace Go.Proofs.YtpmmhhmhckpnfaaGreat.M
open Go.RowKit Go.Proofs.YtpmmhhmhckpnfaaGreat.RX
set_option maxRecDepth 100000
def ndC(x:af):List D:=[.val (.int .i64 x.av),.str x.aC,.recs (α:=Bs) [] aW x.ak,.tree (α:=af) (af.mk 0 [] [] []) fF eQ x.aj]
abbrev svc:Bs:=jV
def ko(x:Bs×af):List D:=[.str x.1,.agg [.val (.int .i64 x.2.av),.str x.2.aC,.recs (α:=Bs) [] aW x.2.ak,.tree (α:=af) (af.mk 0 [] [] []) fF eQ x.2.aj]]
theorem uU(x:af):aJ Tryz.prog 32 [.agg [.val (.int .i64 x.av),.str x.aC,.recs (α:=Bs) [] aW x.ak,.tree (α:=af) (af.mk 0 [] [] []) fF eQ x.aj]]
  (.fn 50 [.el [.val (.int .i64 x.av),.str x.aC,.recs (α:=Bs) [] aW x.ak,.tree (α:=af) (af.mk 0 [] [] []) fF eQ x.aj]]):=by
 refine I9 (fn:=Tryz.f32) (by kernel_rfl) rfl (by kernel_rfl) (Nat.le_of_ble_eq_true (by kernel_rfl)) fun F0 w0 _=>?_
 refine Wp.seq ?_
 refine Wp.region hΓ [] [] [] [1] [1] (K':=[(1,.own 1 0)]) (L':=[(1,25,ndC x)]) (ob:=[]) (by kernel_rfl) ai.nil ?_
 refine To.ah ?_
 refine Wp.seq ?_
 refine Wp.region hΓ [(0,[1])] [] [] [2] [] (K':=[(2,.fn 50 [.el (ndC x)])]) (L':=[]) (ob:=[]) (by kernel_rfl) ai.nil ?_
 refine To.ah ?_
 refine Wp.ret ?_
 exact To.done hΓ (by kernel_rfl)
def uo(a:af):List (Bs×af):=if a.av=3 then a.ak.zip a.aj else []
def mg(n:Nat)(x:af):Option (List (Bs×af)) :=
 (uv n x svc).bind fun r=>if decide (List.length r.1.ak<=limit)=true then some (uo r.1) else none
theorem RN{i m:Nat}(h:i<m)(hm:m<=140737488355328):IntKind.wrap .i64 ((i:Int)+1)=((i+1:Nat):Int):=by
 have h1:(-9223372036854775808:Int)<=(i:Int)+1:=by omega
 have h2:(i:Int)+1<=9223372036854775807:=by omega
 rw[PL.fC _ h1 h2];rfl
theorem RB{α β:Type}{l:List α}{m:List β}{i:Nat}(h1:i<l.length)(h2:i<m.length):(l.zip m).drop i=(l[i],m[i])::(l.zip m).drop (i+1):=by
 have h:i<(l.zip m).length:=by simp;omega
 rw[List.drop_eq_getElem_cons h,List.getElem_zip]
abbrev y50(l:Nat):Value:=.func (.yield l) #[] #[]
abbrev K50(l:Nat)(a:af)(i:Int):List (Nat×D):=[(0,.val (y50 l)),(3,.el (ndC a)),(16,.recs (α:=Bs) [] aW a.ak),(17,.val (.int .i64 (List.length a.ak:Int))),(18,.val (.int .i64 i))]
theorem U7(a:af)(hlen:a.ak.length<=limit)(l:Nat)(J:List (Bs×af)->Fz->World->Prop)(Jx:Fz->World->Prop)(hs:tG J)(hsx:tG (fun(_:Unit)=>Jx))
  (hy:∀x r F w args,J (x::r) F w->(∀g k,F g k->g<w.heap.size)->Shp Tryz.prog w->aD F w NB (ko x) args->YieldAt (Fr none) 0 Tryz.prog l args.toArray w fun e w'=>∃F',Adv Tryz.prog F w F' w'/\((e=.returned (.bool true)/\J r F' w')\/(e=.returned (.bool false)/\Jx F' w'))) :
  ∀(m i:Nat),i<=a.ak.length->a.ak.length-i<m->∀(F0:Fz)(wt:World)(hsh:Shp Tryz.prog wt),(∀g k,F0 g k->g<wt.heap.size)->J ((a.ak.zip a.aj).drop i) F0 wt ->
   WL Tryz.prog 40 F0 (.top wt hsh) (K50 l a (i:Int)) [] (cI (cI (cB (cB (cB (cF Tryz.f50)))))) (Exit.inBlock 0 (bodyPostM (Fr none) 0 Tryz.prog Tryz.f50 (Bm (J []) Jx))):=by
 intro m
 induction m with
 |zero=>intro i _ h;omega
 |succ m ih =>
  intro i h1 h2 F0 wt hsh hF hJ
  refine WL.round ?_
  refine Wp.seq ?_
  refine Wp.region hΓ [] [] [] [0,3,16,17,18,19] [] (K':=K50 l a (i:Int)++[(19,.val (.bool (decide ((i:Int)<(List.length a.ak:Int)))))]) (L':=[]) (ob:=[]) (by kernel_rfl) ai.nil ?_
  refine To.ah ?_
  refine Wp.seq ?_
  refine Wp.cond (b:=decide ((i:Int)<(List.length a.ak:Int))) (by kernel_rfl) (fun hb=>?_) (fun hb=>?_)
  ·have hlt:i<a.ak.length:=by have:=of_decide_eq_true hb;omega
   have hin:decide (0<=(i:Int)/\(i:Int)<(List.length a.ak:Int))=true:=decide_eq_true ⟨by omega,by omega⟩
   have next:∀(F1:Fz)(w1:World)(hsh1:Shp Tryz.prog w1),(∀g k,F1 g k->g<w1.heap.size)->J ((a.ak.zip a.aj).drop (i+1)) F1 w1 ->
     Wp Tryz.prog 40 F1 (.top w1 hsh1) (K50 l a (i:Int)) [] (cB (cB (cB (cI (cI (cB (cB (cB (cF Tryz.f50))))))))) (Exit.then (fun a w=>Lp none Tryz.prog (cI (cI (cB (cB (cB (cF Tryz.f50)))))) (Exit.inBlock 0 (bodyPostM (Fr none) 0 Tryz.prog Tryz.f50 (Bm (J []) Jx))) a w) (Exit.inBlock 0 (bodyPostM (Fr none) 0 Tryz.prog Tryz.f50 (Bm (J []) Jx)))):=by
    intro F1 w1 hsh1 hF1 hJ1
    refine Wp.region hΓ [] [] [] [0,3,16,17,18] [] (K':=K50 l a (IntKind.wrap .i64 ((i:Int)+1))) (L':=[]) (ob:=[]) (by kernel_rfl) ai.nil ?_
    rw[RN hlt hlen]
    refine To.again ?_
    exact ih (i+1) (by omega) (by omega) F1 w1 hsh1 hF1 hJ1
   refine Wp.skip ?_
   refine To.ah ?_
   refine Wp.seq ?_
   refine Wp.block ?_
   refine Wp.seq ?_
   refine Wp.region hΓ [] [] [] [0,3,5,6,16,17,18] [] (K':=[(0,.val (y50 l)),(3,.el (ndC a)),(5,.val (.int .i64 (i:Int))),(6,.str ((a.ak)[Int.toNat (i:Int)]?.getD [])),(16,.recs (α:=Bs) [] aW a.ak),(17,.val (.int .i64 (List.length a.ak:Int))),(18,.val (.int .i64 (i:Int)))]) (L':=[]) (ob:=[(decide (0<=(i:Int)/\(i:Int)<(List.length a.ak:Int)))=true]) (by kernel_rfl) (ai.cons hin ai.nil) ?_
   refine To.ah ?_
   refine Wp.seq ?_
   have hat:((a.ak)[Int.toNat (i:Int)]?.getD [])=a.ak[i]:=by rw[Int.toNat_natCast,List.getElem?_eq_getElem hlt];rfl
   refine Wp.M7 hΓ 13 l [] [] [] [0,3,16,17,18,38] (hs.T8 ((a.ak.zip a.aj).drop i)) (J1:=J ((a.ak.zip a.aj).drop i)) (J2:=J ((a.ak.zip a.aj).drop (i+1))) (Jx:=Jx)
    (ds:=fun _=>ko (((a.ak)[Int.toNat (i:Int)]?.getD []),((a.aj)[Int.toNat (i:Int)]?.getD (af.mk 0 [] [] [])))) (gv:=(decide ((i:Int)<(List.length a.aj:Int))==true))
    (K2:=fun b=>K50 l a (i:Int)++[(38,.val (.bool (bif decide ((i:Int)<(List.length a.aj:Int)) then !b else false)))])
    (ob:=fun b=>[((!((decide ((i:Int)<(List.length a.aj:Int)))==true)||decide (0<=(i:Int)/\(i:Int)<(List.length a.aj:Int))))=true]) (fun b=>by kernel_rfl) (fun b=>?_) hF hJ ?_ ?_ ?_
   ·show(!((decide ((i:Int)<(List.length a.aj:Int)))==true)||decide (0<=(i:Int)/\(i:Int)<(List.length a.aj:Int)))=true
    by_cases hk:i<a.aj.length
    ·rw[decide_eq_true (show 0<=(i:Int)/\(i:Int)<(List.length a.aj:Int) from⟨by omega,by omega⟩),Bool.or_true]
    ·rw[decide_eq_false (show ¬(i:Int)<(List.length a.aj:Int) by omega)];rfl
   ·intro hg F w args hJ' hfr hsh' hr
    have hg:decide ((i:Int)<(List.length a.aj:Int))=true:=beq_iff_eq.1 hg
    have hk:i<a.aj.length:=by have:=of_decide_eq_true hg;omega
    rw[RB hlt hk] at hJ'
    have hat2:((a.aj)[Int.toNat (i:Int)]?.getD (af.mk 0 [] [] []))=a.aj[i]:=by rw[Int.toNat_natCast,List.getElem?_eq_getElem hk];rfl
    rw[hat,hat2] at hr
    exact hy _ _ F w args hJ' hfr hsh' hr
   ·intro hg b F1 w1 hsh1 hJb hfr1
    have hg:decide ((i:Int)<(List.length a.aj:Int))=true:=beq_iff_eq.1 hg
    refine To.ah ?_
    refine Wp.cond (b:=(bif decide ((i:Int)<(List.length a.aj:Int)) then !b else false)) (by kernel_rfl) (fun hb2=>?_) (fun hb2=>?_)
    ·rw[hg] at hb2
     have hbf:b=false:=by simpa using hb2
     rw[hbf,if_neg (by decide)] at hJb
     refine Wp.ret ?_
     refine To.aP ?_
     refine To.aA ?_
     refine To.aA ?_
     refine To.aP ?_
     exact To.DY (r:=.tup []) hΓ hs hsx (.inr hJb) (by kernel_rfl)
    ·rw[hg] at hb2
     have hbt:b=true:=by simpa using hb2
     rw[hbt,if_pos rfl] at hJb
     refine Wp.skip ?_
     refine To.aR ?_
     refine To.ah ?_
     refine Wp.keep (kk:=[0,3,16,17,18]) (kl:=[]) (K':=K50 l a (i:Int)) (L':=[]) (by kernel_rfl) (by kernel_rfl) ?_
     exact next F1 w1 hsh1 hfr1 hJb
   ·intro hg
    have hg:decide ((i:Int)<(List.length a.aj:Int))=false:=by simpa using hg
    have hk:¬i<a.aj.length:=by have:=of_decide_eq_false hg;omega
    refine To.ah ?_
    refine Wp.cond (b:=(bif decide ((i:Int)<(List.length a.aj:Int)) then !false else false)) (by kernel_rfl) (fun hb2=>?_) (fun hb2=>?_)
    ·rw[hg] at hb2;cases hb2
    ·refine Wp.skip ?_
     refine To.aR ?_
     refine To.ah ?_
     refine Wp.keep (kk:=[0,3,16,17,18]) (kl:=[]) (K':=K50 l a (i:Int)) (L':=[]) (by kernel_rfl) (by kernel_rfl) ?_
     refine next F0 wt hsh hF ?_
     have e1:(a.ak.zip a.aj).drop i=[]:=List.drop_eq_nil_of_le (by simp;omega)
     have e2:(a.ak.zip a.aj).drop (i+1)=[]:=List.drop_eq_nil_of_le (by simp;omega)
     rw[e2,<-e1];exact hJ
  ·refine Wp.exit ?_
   refine To.aK ?_
   refine To.aK ?_
   refine To.keep (kk:=[]) (kl:=[]) (K':=[]) (L':=[]) (by kernel_rfl) (by kernel_rfl) ?_
   refine To.aY ?_
   have hi:i=a.ak.length:=by have:=of_decide_eq_false hb;omega
   have hnil:(a.ak.zip a.aj).drop i=[]:=List.drop_eq_nil_of_le (by simp;omega)
   rw[hnil] at hJ
   exact To.Tq (r:=.tup []) hΓ hs hsx (.inl hJ) (by kernel_rfl)
theorem pG(n:Nat)(x:af)(xs:List (Bs×af))(h:mg n x=some xs):N5 Tryz.prog 50 [.el [.val (.int .i64 x.av),.str x.aC,.recs (α:=Bs) [] aW x.ak,.tree (α:=af) (af.mk 0 [] [] []) fF eQ x.aj]] ko xs:=by
 unfold mg at h
 obtain⟨r,hr,h⟩:=au h
 obtain⟨hc,h⟩:=ax h
 cases h
 refine Tv (fn:=Tryz.f50) (by kernel_rfl) rfl (by kernel_rfl) (Nat.le_of_ble_eq_true (by kernel_rfl)) fun l J Jx hs hsx hy F0 wt hsh hJ hF=>?_
 refine Wp.seq ?_
 refine Wp.region hΓ [] [(1,.tup [.agg (ndC r.1),.val (.bool r.2)])] [] [0,3] [3] (K':=[(0,.val (y50 l)),(3,.own 3 0)]) (L':=[(3,25,ndC r.1)]) (ob:=[(true=true->CX Tryz.prog 51 [.agg (ndC x),.str svc] (.tup [.agg (ndC r.1),.val (.bool r.2)]))]) (by kernel_rfl) (ai.cons (fun _=>cx (Dw n x svc _ hr)) ai.nil) ?_
 refine To.ah ?_
 refine Wp.seq ?_
 refine Wp.seq ?_
 refine Wp.region hΓ [(0,[3])] [] [] [0,3,14] [] (K':=[(0,.val (y50 l)),(3,.el (ndC r.1)),(14,.val (.bool (r.1.av != 3)))]) (L':=[]) (ob:=[]) (by kernel_rfl) ai.nil ?_
 refine To.ah ?_
 refine Wp.cond (b:=(r.1.av != 3)) (by kernel_rfl) (fun hb=>?_) (fun hb=>?_)
 ·have hk:r.1.av≠3:=by simpa using hb
  have hp:uo r.1=[]:=by unfold uo;rw[if_neg hk]
  rw[hp] at hJ
  refine Wp.ret ?_
  refine To.aA ?_
  exact To.DY (r:=.tup []) hΓ hs hsx (.inl hJ) (by kernel_rfl)
 ·have hk:r.1.av=3:=by simpa using hb
  have hp:uo r.1=r.1.ak.zip r.1.aj:=by unfold uo;rw[if_pos hk]
  rw[hp] at hJ
  refine Wp.skip ?_
  refine To.ah ?_
  refine Wp.seq ?_
  refine Wp.region hΓ [] [] [] [0,3,16,17,18] [] (K':=K50 l r.1 0) (L':=[]) (ob:=[]) (by kernel_rfl) ai.nil ?_
  refine To.ah ?_
  refine Wp.block ?_
  refine Wp.bE ?_
  exact U7 r.1 (of_decide_eq_true hc) l J Jx hs hsx hy (r.1.ak.length+1) 0 (Nat.zero_le _) (by omega) F0 wt hsh hF hJ
end Go.Proofs.YtpmmhhmhckpnfaaGreat.M
namespace Go.Proofs.YtpmmhhmhckpnfaaGreat.M
open Go.RowKit Go.Proofs.YtpmmhhmhckpnfaaGreat.RX
set_option maxRecDepth 100000
def kz(n:Nat)(a0:af):Option ((Ls)) :=
 (uv n a0 sG).bind fun r1 =>
 some r1.1.ak
theorem rC(n:Nat)(a0:af)(r:(Ls))(h:kz n a0=some r):aJ Tryz.prog 41 [.agg (qc6 a0)] (ls r):=by
 unfold kz at h
 refine xo Tryz.f41 rfl fun F0 w0 _=>?_
 refine Wp.seq (rg [1] [1] [(1,.own 1 0)] [(1,25,qc6 a0)] (To.ah (Wp.seq ?_)))
 obtain⟨r1,hr1,h⟩:=au h
 refine rc [] 1 [3] [3] [(3,.own 3 0)] [(3,25,qc6 r1.1)] (Dw n a0 sG _ hr1) (To.ah (Wp.seq (rg [2] [] [(2,ls r1.1.ak)] [] (To.ah (Wp.ret ?_)))))
 cases h
 exact To.done hΓ (by kernel_rfl)
def dJ(n:Nat)(a0:Ls)(a1:Bs):Option (Bool) :=
 (dW n a0 a1).bind fun r1 =>
 some (decide (r1>=0))
theorem lq(n:Nat)(a0:Ls)(a1:Bs)(r:Bool)(h:dJ n a0 a1=some r):aJ Tryz.prog 44 [ls a0,.str a1] (vb r):=by
 unfold dJ at h
 refine xo Tryz.f44 rfl fun F0 w0 _=>?_
 refine Wp.seq (rg [0,1] [] [(0,ls a0),(1,.str a1)] [] (To.ah (Wp.seq ?_)))
 obtain⟨r1,hr1,h⟩:=au h
 refine rc [] 2 [4] [] [(4,vb (decide (r1>=0)))] [] (mF n a0 a1 _ hr1) (To.ah (Wp.ret ?_))
 cases h
 exact To.done hΓ (by kernel_rfl)
def sV(n:Nat)(a0:Bs)(c0:Ls):Option (Bool) :=
 (dJ n c0 a0).bind fun r1 =>
 some r1
theorem F7(n:Nat)(a0:Bs)(c0:Ls)(r:Bool)(h:sV n a0 c0=some r):aJ Tryz.prog 53 [.str a0,.el [ls c0]] (vb r):=by
 unfold sV at h
 refine xo Tryz.f53 rfl fun F0 w0 _=>?_
 refine Wp.seq (rg [0,1] [] [(0,.str a0),(1,.el [ls c0])] [] (To.ah (Wp.seq ?_)))
 obtain⟨r1,hr1,h⟩:=au h
 refine rc [] 2 [3] [] [(3,vb r1)] [] (lq n c0 a0 _ hr1) (To.ah (Wp.ret ?_))
 cases h
 exact To.done hΓ (by kernel_rfl)
def bn(n:Nat)(v0:Ls)(v1_0:Ls)(v7:Int):Nat->Int->Option (Sum (Unit) (Int))
 |0,_=>none
 |k+1,v8=>if(decide (v8<v7))=true then(if(decide (0<=v8/\v8<(List.length v0:Int)))=true then((sV n ((v0)[Int.toNat v8]?.getD []) v1_0).bind fun r1 =>
 if r1=true then(some (.inr v8))
 else(bn n v0 v1_0 v7 k (IntKind.wrap .i64 (v8+1)))) else none)
 else(some (.inl ()))
variable {F0:Fz} {w0:Pt Tryz.prog} {Q:Exit->Act->World->Prop}
theorem kS(n:Nat)(v0:Ls)(v1_0:Ls)(v7:Int)(k:Nat):∀(v8:Int)(o:Sum (Unit) (Int)),bn n v0 v1_0 v7 k v8=some o->(Sum.elim (fun s=>To 19 F0 w0 [] [] (.exit 0) Q) (fun s=>To 19 F0 w0 [(4,vi s)] [] .ret Q)) o->WL Tryz.prog 19 F0 w0 [(0,ls v0),(1,.fn 53 [.el [ls v1_0]]),(7,vi v7),(8,vi v8)] [] (cI (cI (cB (cA (cB (cF Tryz.f63)))))) Q:=by
 induction k with
 |zero=>intro v8 o h;cases h
 |succ k ih =>
  intro v8 o h hQ
  rw[bn] at h
  refine WL.round (Wp.seq (rg [0,1,7,8,9] [] [(0,ls v0),(1,.fn 53 [.el [ls v1_0]]),(7,vi v7),(8,vi v8),(9,vb (decide (v8<v7)))] [] (To.ah (Wp.seq (cn h (fun h=>?_) (fun h=>?_))))))
  ·refine Wp.skip (To.ah (Wp.seq (Wp.block (Wp.seq (rg [0,1,5,7,8] [] [(0,ls v0),(1,.fn 53 [.el [ls v1_0]]),(5,vi v8),(7,vi v7),(8,vi v8)] [] (To.ah (Wp.seq ?_)))))))
   obtain⟨hc2,h⟩:=ax h
   obtain⟨r1,hr1,h⟩:=au h
   refine rr [] [(5,vb r1)] [] [0,1,5,7,8,16] [] [(0,ls v0),(1,.fn 53 [.el [ls v1_0]]),(5,vi v8),(7,vi v7),(8,vi v8),(16,vb r1)] [] [_,_] (ai.cons hc2 (ai.cons (c1 (F7 n ((v0)[Int.toNat v8]?.getD []) v1_0 _ hr1)) ai.nil)) (To.ah (cn h (fun h=>?_) (fun h=>?_)))
   ·refine Wp.seq (rg [4] [] [(4,vi v8)] [] (To.ah (Wp.ret (To.aP (To.aA (To.aA ?_))))))
    cases h
    exact hQ
   ·refine Wp.skip (To.aR (To.ah (rg [0,1,7,8] [] [(0,ls v0),(1,.fn 53 [.el [ls v1_0]]),(7,vi v7),(xE v8)] [] (kt [0,1,7,8] [] [(0,ls v0),(1,.fn 53 [.el [ls v1_0]]),(7,vi v7),(xE v8)] [] (To.again ?_)))))
    exact ih (IntKind.wrap .i64 (v8+1)) _ h hQ
  ·refine Wp.exit (To.aK (To.aK (kt [] [] [] [] ?_)))
   cases h
   exact hQ
def dC(n:Nat)(a0:Ls)(c0:Ls):Option (Int) :=
 (bn n a0 c0 (List.length a0:Int) n 0).bind fun o1 =>
 (Sum.elim (fun o1=>some (-1)) (fun o1=>some o1)) o1
theorem lJ(n:Nat)(a0:Ls)(c0:Ls)(r:Int)(h:dC n a0 c0=some r):aJ Tryz.prog 63 [ls a0,.fn 53 [.el [ls c0]]] (vi r):=by
 unfold dC at h
 refine xo Tryz.f63 rfl fun F0 w0 _=>?_
 refine Wp.seq (rg [0,1] [] [(0,ls a0),(1,.fn 53 [.el [ls c0]])] [] (To.ah (Wp.seq (Wp.seq (rg [0,1,7,8] [] [(0,ls a0),(1,.fn 53 [.el [ls c0]]),(7,vi (List.length a0:Int)),(8,vi 0)] [] (To.ah (Wp.block ?_)))))))
 obtain⟨o1,ho1,h⟩:=au h
 refine kw [0,1,7,8] [] [(0,ls a0),(1,.fn 53 [.el [ls c0]]),(7,vi (List.length a0:Int)),(8,vi 0)] [] (Wp.bE (kS n a0 c0 (List.length a0:Int) n 0 o1 ho1 ?_))
 rcases o1 with o1|o1
 ·replace h:=cv h
  refine To.aY (To.ah (Wp.seq (rg [4] [] [(4,vi (-1))] [] (To.ah (Wp.ret ?_)))))
  cases h
  exact To.done hΓ (by kernel_rfl)
 ·replace h:=cy h
  refine To.aP (To.aA ?_)
  cases h
  exact To.done hΓ (by kernel_rfl)
def bX(n:Nat)(a0:Ls)(c0:Ls):Option (Bool) :=
 (dC n a0 c0).bind fun r1 =>
 some (decide (r1>=0))
theorem kZ(n:Nat)(a0:Ls)(c0:Ls)(r:Bool)(h:bX n a0 c0=some r):aJ Tryz.prog 52 [ls a0,.fn 53 [.el [ls c0]]] (vb r):=by
 unfold bX at h
 refine xo Tryz.f52 rfl fun F0 w0 _=>?_
 refine Wp.seq (rg [0,1] [] [(0,ls a0),(1,.fn 53 [.el [ls c0]])] [] (To.ah (Wp.seq ?_)))
 obtain⟨r1,hr1,h⟩:=au h
 refine rc [] 2 [4] [] [(4,vb (decide (r1>=0)))] [] (lJ n a0 c0 _ hr1) (To.ah (Wp.ret ?_))
 cases h
 exact To.done hΓ (by kernel_rfl)
def uj(n:Nat)(a0:af)(a1:Ls):Option (Bool) :=
 (kz n a0).bind fun r1 =>
 ((if(((List.length r1:Int)==0)==false)=true then bX n r1 a1 else some false)).bind fun r2 =>
 some (bif ((List.length r1:Int)==0) then true else r2)
theorem yU(n:Nat)(a0:af)(a1:Ls)(r:Bool)(h:uj n a0 a1=some r):aJ Tryz.prog 33 [.agg (qc6 a0),ls a1] (vb r):=by
 unfold uj at h
 refine xo Tryz.f33 rfl fun F0 w0 _=>?_
 refine Wp.seq (rg [2,3] [2,3] [(2,.own 2 0),(3,.own 3 0)] [(2,25,qc6 a0),(3,22,[ls a1])] (To.ah (Wp.seq ?_)))
 obtain⟨r1,hr1,h⟩:=au h
 refine rc [] 1 [3,5] [3] [(3,.own 3 0),(5,ls r1)] [(3,22,[ls a1])] (rC n a0 _ hr1) (To.ah (Wp.seq ?_))
 obtain⟨r2,hr2,h⟩:=au h
 refine rr [(5,[3])] [(6,vb r2)] [] [4] [] [(4,vb (bif ((List.length r1:Int)==0) then true else r2))] [] [((((List.length r1:Int)==0)==false)=true->CX Tryz.prog 52 [ls r1,.fn 53 [.el [ls a1]]] (vb r2))] (ai.cons (fun hg=>cx (kZ n r1 a1 _ (jB hg hr2))) ai.nil) (To.ah (Wp.ret ?_))
 cases h
 exact To.done hΓ (by kernel_rfl)
def IL:Ls->List D:=fun x=>[.recs (α:=Bs) [] aW x]
def eH(n:Nat)(v0:List (Ls))(v3:Int)(v9:List (Ls))(v10:Int)(v11:Int):Option (Int) :=
 if(decide (0<=v11/\v11<(List.length v9:Int)))=true then(if(decide ((IntKind.wrap .i64 (v3+(List.length ((v9)[Int.toNat v11]?.getD []):Int)))<0))=true then none
 else(some (IntKind.wrap .i64 (v3+(List.length ((v9)[Int.toNat v11]?.getD []):Int))))) else none
abbrev eP(l:List (Ls)):D:=.recs (α:=Ls) [] IL l
abbrev vp(x0:List (Ls))(x1:Int):=((x0)[Int.toNat x1]?.getD [])
abbrev OH(x0:Int)(x1:List (Ls))(x2:Int):=(IntKind.wrap .i64 (x0+(List.length (vp x1 x2):Int)))
theorem qE(n:Nat)(v0:List (Ls))(v3:Int)(v9:List (Ls))(v10:Int)(v11:Int)(o:Int)(h:eH n v0 v3 v9 v10 v11=some o)(hQ:To 36 F0 w0 [(0,eP v0),(3,vi o),(9,eP v9),(10,vi v10),(11,vi v11)] [] .normal Q):Wp Tryz.prog 36 F0 w0 [(0,eP v0),(3,vi v3),(9,eP v9),(10,vi v10),(11,vi v11)] [] (cA (cB (cB (cI (cI (cB (cA (cB (cB (cF Tryz.f56)))))))))) Q:=by
 unfold eH at h
 refine Wp.block (Wp.seq ?_)
 obtain⟨hc1,h⟩:=ax h
 refine r0 [0,3,5,9,10,11] [] [(0,eP v0),(3,vi v3),(5,ls (vp v9 v11)),(9,eP v9),(10,vi v10),(11,vi v11)] [] (ai.cons hc1 ai.nil) (To.ah (Wp.seq (rg [0,3,9,10,11] [] [(0,eP v0),(3,vi (OH v3 v9 v11)),(9,eP v9),(10,vi v10),(11,vi v11)] [] (To.ah (Wp.seq (rg [0,3,9,10,11,20] [] [(0,eP v0),(3,vi (OH v3 v9 v11)),(9,eP v9),(10,vi v10),(11,vi v11),(20,vb (decide ((OH v3 v9 v11)<0)))] [] (To.ah (cn h (fun h=>?_) (fun h=>?_)))))))))
 ·cases h
 ·refine Wp.skip (To.aR (kt [0,3,9,10,11] [] [(0,eP v0),(3,vi (OH v3 v9 v11)),(9,eP v9),(10,vi v10),(11,vi v11)] [] ?_))
  cases h
  exact hQ
def bf(n:Nat)(v0:List (Ls))(v9:List (Ls))(v10:Int):Nat->Int->Int->Option (Int)
 |0,_,_=>none
 |k+1,v3,v11=>if(decide (v11<v10))=true then((eH n v0 v3 v9 v10 v11).bind fun o1 =>
 bf n v0 v9 v10 k o1 (IntKind.wrap .i64 (v11+1)))
 else some v3
theorem qF(n:Nat)(v0:List (Ls))(v9:List (Ls))(v10:Int)(k:Nat):∀(v3:Int)(v11:Int)(o:Int),bf n v0 v9 v10 k v3 v11=some o->To 36 F0 w0 [(0,eP v0),(3,vi o)] [] (.exit 0) Q->WL Tryz.prog 36 F0 w0 [(0,eP v0),(3,vi v3),(9,eP v9),(10,vi v10),(11,vi v11)] [] (cI (cI (cB (cA (cB (cB (cF Tryz.f56))))))) Q:=by
 induction k with
 |zero=>intro v3 v11 o h;cases h
 |succ k ih =>
  intro v3 v11 o h hQ
  rw[bf] at h
  refine WL.round (Wp.seq (rg [0,3,9,10,11,12] [] [(0,eP v0),(3,vi v3),(9,eP v9),(10,vi v10),(11,vi v11),(12,vb (decide (v11<v10)))] [] (To.ah (Wp.seq (cn h (fun h=>?_) (fun h=>?_))))))
  ·refine Wp.skip (To.ah (Wp.seq ?_))
   obtain⟨o1,ho1,h⟩:=au h
   refine kw [0,3,9,10,11] [] [(0,eP v0),(3,vi v3),(9,eP v9),(10,vi v10),(11,vi v11)] [] (qE n v0 v3 v9 v10 v11 o1 ho1 (To.ah (rg [0,3,9,10,11] [] [(0,eP v0),(3,vi o1),(9,eP v9),(10,vi v10),(11,vi (IntKind.wrap .i64 (v11+1)))] [] (kt [0,3,9,10,11] [] [(0,eP v0),(3,vi o1),(9,eP v9),(10,vi v10),(11,vi (IntKind.wrap .i64 (v11+1)))] [] (To.again ?_)))))
   exact ih o1 (IntKind.wrap .i64 (v11+1)) _ h hQ
  ·refine Wp.exit (To.aK (To.aK (kt [0,3] [] [(0,eP v0),(3,vi v3)] [] ?_)))
   cases h
   exact hQ
def aT(n:Nat)(v25:List (Ls))(v26:Int):Nat->(Ls)->Int->Option ((Ls))
 |0,_,_=>none
 |k+1,v6,v27=>if(decide (v27<v26))=true then(if(decide (0<=v27/\v27<(List.length v25:Int)))=true then(if(decide ((List.length v6+List.length ((v25)[Int.toNat v27]?.getD []))*(16+1)<=limit))=true then(aT n v25 v26 k (v6++((v25)[Int.toNat v27]?.getD [])) (IntKind.wrap .i64 (v27+1))) else none) else none)
 else some v6
abbrev NV(x0:Int):Nat×D:=(27,vi (IntKind.wrap .i64 (x0+1)))
theorem qH(n:Nat)(v25:List (Ls))(v26:Int)(k:Nat):∀(v6:Ls)(v27:Int)(o:(Ls)),aT n v25 v26 k v6 v27=some o->To 36 F0 w0 [(6,.row 1006)] [(1006,9,[rc1 o])] (.exit 2) Q->WL Tryz.prog 36 F0 w0 [(6,.row 1006),(25,eP v25),(26,vi v26),(27,vi v27)] [(1006,9,[rc1 v6])] (cI (cI (cB (cA (cB (cB (cB (cB (cF Tryz.f56))))))))) Q:=by
 induction k with
 |zero=>intro v6 v27 o h;cases h
 |succ k ih =>
  intro v6 v27 o h hQ
  rw[aT] at h
  refine WL.round (Wp.seq (rg [6,25,26,27,28] [1006] [(6,.row 1006),(25,eP v25),(26,vi v26),(27,vi v27),(28,vb (decide (v27<v26)))] [(1006,9,[rc1 v6])] (To.ah (Wp.seq (cn h (fun h=>?_) (fun h=>?_))))))
  ·refine Wp.skip (To.ah (Wp.seq (Wp.block (Wp.seq ?_))))
   obtain⟨hc4,h⟩:=ax h
   refine r0 [6,8,25,26,27] [1006] [(6,.row 1006),(8,ls (vp v25 v27)),(25,eP v25),(26,vi v26),(27,vi v27)] [(1006,9,[rc1 v6])] (ai.cons hc4 ai.nil) (To.ah ?_)
   obtain⟨hc3,h⟩:=ax h
   refine rr [] [(2,ls (v6++(vp v25 v27)))] [] [6,25,26,27] [33] [(6,.row 33),(25,eP v25),(26,vi v26),(27,vi v27)] [(33,9,[rc1 (v6++(vp v25 v27))])] [_,(gY [] aW v6 (List.flatMap aW (vp v25 v27)) (List.length (vp v25 v27)) (ls (v6++(vp v25 v27)))/\aM (ls (v6++(vp v25 v27))))] (ai.cons hc3 (ai.cons (iI rfl rfl (aI _)) ai.nil)) (To.aR (To.ah (rg [6,25,26,27] [33] [(6,.row 33),(25,eP v25),(26,vi v26),(NV v27)] [(33,9,[rc1 (v6++(vp v25 v27))])] (nt [6,25,26,27] [33] [(33,1006)] [6,25,26,27] [1006] [(6,.row 1006),(25,eP v25),(26,vi v26),(NV v27)] [(1006,9,[rc1 (v6++(vp v25 v27))])] (To.again ?_)))))
   exact ih (v6++(vp v25 v27)) (IntKind.wrap .i64 (v27+1)) _ h hQ
  ·refine Wp.exit (To.aK (To.aK (kt [6] [1006] [(6,.row 1006)] [(1006,9,[rc1 v6])] ?_)))
   cases h
   exact hQ
def fY(n:Nat)(a0:List (Ls)):Option ((Ls)) :=
 (bf n a0 a0 (List.length a0:Int) n 0 0).bind fun o1 =>
 if(decide (0<=o1/\o1*17<=(limit:Int)))=true then((aT n a0 (List.length a0:Int) n ([]:Ls) 0).bind fun o3 =>
 some o3) else none
theorem tu(n:Nat)(a0:List (Ls))(r:(Ls))(h:fY n a0=some r):aJ Tryz.prog 56 [eP a0] (ls r):=by
 unfold fY at h
 refine xo Tryz.f56 rfl fun F0 w0 _=>?_
 refine Wp.seq (rg [0] [] [(0,eP a0)] [] (To.ah (Wp.seq (rg [0,3] [] [(0,eP a0),(3,vi 0)] [] (To.ah (Wp.seq (Wp.seq (rg [0,3,9,10,11] [] [(0,eP a0),(3,vi 0),(9,eP a0),(10,vi (List.length a0:Int)),(11,vi 0)] [] (To.ah (Wp.block ?_))))))))))
 obtain⟨o1,ho1,h⟩:=au h
 refine kw [0,3,9,10,11] [] [(0,eP a0),(3,vi 0),(9,eP a0),(10,vi (List.length a0:Int)),(11,vi 0)] [] (Wp.bE (qF n a0 a0 (List.length a0:Int) n 0 0 o1 ho1 (To.aY (To.ah (Wp.seq ?_)))))
 obtain⟨u2,h⟩:=ax h
 refine rb [] 1 ⟨[],[(1,24)],[.val (.slice none 0 0),vi o1],[],.row 1,[(1,9,[rc1 []])]⟩ [0,6] [24] [(0,eP a0),(6,.row 24)] [(24,9,[rc1 []])] (Sh.TS u2) (To.ah (Wp.seq (Wp.seq (rg [6,25,26,27] [24] [(6,.row 24),(25,eP a0),(26,vi (List.length a0:Int)),(27,vi 0)] [(24,9,[rc1 []])] (To.ah (Wp.block ?_))))))
 obtain⟨o3,ho3,h⟩:=au h
 refine nw [6,25,26,27] [24] [(24,1006)] [6,25,26,27] [1006] [(6,.row 1006),(25,eP a0),(26,vi (List.length a0:Int)),(27,vi 0)] [(1006,9,[rc1 []])] (Wp.bE (qH n a0 (List.length a0:Int) n ([]:Ls) 0 o3 ho3 (To.aY (To.ah (Wp.seq (rg [2] [1006] [(2,.row 1006)] [(1006,9,[rc1 o3])] (To.ah (Wp.ret (To.pre (St.settle (ks:=[1006]) (kk:=[2]) (kl:=[1006]) (K':=[(2,.row 1006)]) (L':=[(1006,9,[rc2 o3])]) (by kernel_rfl)) (To.pre (St.xk [2] (K':=[(2,ls o3)]) (by kernel_rfl)) ?_))))))))))
 cases h
 exact To.done hΓ (by kernel_rfl)
def Dk:List (af)->List D:=fun x=>[.recs (α:=af) (af.mk 0 [] [] []) bY x]
theorem Uk{x:Int}(h:decide (0<=x/\x*73<=(limit:Int))=true):dh Tryz.prog 66 [.val (.slice none 0 0),.val (.int .i64 x)] [] (.row 1) [(1,25,[.aX false (α:=af) (af.mk 0 [] [] []) bY []])]:=Aj (size:=4) (bytes:=72) ⟨Tryz.f66,by kernel_rfl,by kernel_rfl,by kernel_rfl⟩ (bg []) (by kernel_rfl) (by kernel_rfl)
 (fun w=>Any8.slices_Grow_room Tryz.M8 none 0 0 0 w (by decide) (by decide) (by decide) (by decide))
 (fun i z hi hz hs n w h1 h2 h3=>by
  have h:=Any8.slices_Grow_grow Tryz.M8 i z hi hz hs none 0 0 n [] w (Nat.le_refl _) (by omega) (by simpa using h2) (by simpa using h3) (by simp) (fun _=>rfl) (fun a h=>by cases h)
  simp only[Nat.zero_add,Nat.sub_zero] at h
  exact h) h
def dI(n:Nat)(v0:List (List (af)))(v3:Int)(v9:List (List (af)))(v10:Int)(v11:Int):Option (Int) :=
 if(decide (0<=v11/\v11<(List.length v9:Int)))=true then(if(decide ((IntKind.wrap .i64 (v3+(List.length ((v9)[Int.toNat v11]?.getD []):Int)))<0))=true then none
 else(some (IntKind.wrap .i64 (v3+(List.length ((v9)[Int.toNat v11]?.getD []):Int))))) else none
abbrev eU(l:List (List (af))):D:=.recs (α:=List (af)) [] Dk l
abbrev vm(x0:List (List (af)))(x1:Int):=((x0)[Int.toNat x1]?.getD [])
abbrev Oe(x0:Int)(x1:List (List (af)))(x2:Int):=(IntKind.wrap .i64 (x0+(List.length (vm x1 x2):Int)))
theorem oR(n:Nat)(v0:List (List (af)))(v3:Int)(v9:List (List (af)))(v10:Int)(v11:Int)(o:Int)(h:dI n v0 v3 v9 v10 v11=some o)(hQ:To 36 F0 w0 [(0,eU v0),(3,vi o),(9,eU v9),(10,vi v10),(11,vi v11)] [] .normal Q):Wp Tryz.prog 36 F0 w0 [(0,eU v0),(3,vi v3),(9,eU v9),(10,vi v10),(11,vi v11)] [] (cA (cB (cB (cI (cI (cB (cA (cB (cB (cF Tryz.f57)))))))))) Q:=by
 unfold dI at h
 refine Wp.block (Wp.seq ?_)
 obtain⟨hc1,h⟩:=ax h
 refine r0 [0,3,5,9,10,11] [] [(0,eU v0),(3,vi v3),(5,rs8 (vm v9 v11)),(9,eU v9),(10,vi v10),(11,vi v11)] [] (ai.cons hc1 ai.nil) (To.ah (Wp.seq (rg [0,3,9,10,11] [] [(0,eU v0),(3,vi (Oe v3 v9 v11)),(9,eU v9),(10,vi v10),(11,vi v11)] [] (To.ah (Wp.seq (rg [0,3,9,10,11,20] [] [(0,eU v0),(3,vi (Oe v3 v9 v11)),(9,eU v9),(10,vi v10),(11,vi v11),(20,vb (decide ((Oe v3 v9 v11)<0)))] [] (To.ah (cn h (fun h=>?_) (fun h=>?_)))))))))
 ·cases h
 ·refine Wp.skip (To.aR (kt [0,3,9,10,11] [] [(0,eU v0),(3,vi (Oe v3 v9 v11)),(9,eU v9),(10,vi v10),(11,vi v11)] [] ?_))
  cases h
  exact hQ
def aV(n:Nat)(v0:List (List (af)))(v9:List (List (af)))(v10:Int):Nat->Int->Int->Option (Int)
 |0,_,_=>none
 |k+1,v3,v11=>if(decide (v11<v10))=true then((dI n v0 v3 v9 v10 v11).bind fun o1 =>
 aV n v0 v9 v10 k o1 (IntKind.wrap .i64 (v11+1)))
 else some v3
theorem oS(n:Nat)(v0:List (List (af)))(v9:List (List (af)))(v10:Int)(k:Nat):∀(v3:Int)(v11:Int)(o:Int),aV n v0 v9 v10 k v3 v11=some o->To 36 F0 w0 [(0,eU v0),(3,vi o)] [] (.exit 0) Q->WL Tryz.prog 36 F0 w0 [(0,eU v0),(3,vi v3),(9,eU v9),(10,vi v10),(11,vi v11)] [] (cI (cI (cB (cA (cB (cB (cF Tryz.f57))))))) Q:=by
 induction k with
 |zero=>intro v3 v11 o h;cases h
 |succ k ih =>
  intro v3 v11 o h hQ
  rw[aV] at h
  refine WL.round (Wp.seq (rg [0,3,9,10,11,12] [] [(0,eU v0),(3,vi v3),(9,eU v9),(10,vi v10),(11,vi v11),(12,vb (decide (v11<v10)))] [] (To.ah (Wp.seq (cn h (fun h=>?_) (fun h=>?_))))))
  ·refine Wp.skip (To.ah (Wp.seq ?_))
   obtain⟨o1,ho1,h⟩:=au h
   refine kw [0,3,9,10,11] [] [(0,eU v0),(3,vi v3),(9,eU v9),(10,vi v10),(11,vi v11)] [] (oR n v0 v3 v9 v10 v11 o1 ho1 (To.ah (rg [0,3,9,10,11] [] [(0,eU v0),(3,vi o1),(9,eU v9),(10,vi v10),(11,vi (IntKind.wrap .i64 (v11+1)))] [] (kt [0,3,9,10,11] [] [(0,eU v0),(3,vi o1),(9,eU v9),(10,vi v10),(11,vi (IntKind.wrap .i64 (v11+1)))] [] (To.again ?_)))))
   exact ih o1 (IntKind.wrap .i64 (v11+1)) _ h hQ
  ·refine Wp.exit (To.aK (To.aK (kt [0,3] [] [(0,eU v0),(3,vi v3)] [] ?_)))
   cases h
   exact hQ
def aN(n:Nat)(v25:List (List (af)))(v26:Int):Nat->(List (af))->Int->Option ((List (af)))
 |0,_,_=>none
 |k+1,v6,v27=>if(decide (v27<v26))=true then(if(decide (0<=v27/\v27<(List.length v25:Int)))=true then(if(decide ((List.length v6+List.length ((v25)[Int.toNat v27]?.getD []))*(72+1)<=limit))=true then(aN n v25 v26 k (v6++((v25)[Int.toNat v27]?.getD [])) (IntKind.wrap .i64 (v27+1))) else none) else none)
 else some v6
theorem oQ(n:Nat)(v25:List (List (af)))(v26:Int)(k:Nat):∀(v6:List (af))(v27:Int)(o:(List (af))),aN n v25 v26 k v6 v27=some o->To 36 F0 w0 [(6,.row 1006)] [(1006,25,[rc9 o])] (.exit 2) Q->WL Tryz.prog 36 F0 w0 [(6,.row 1006),(25,eU v25),(26,vi v26),(27,vi v27)] [(1006,25,[rc9 v6])] (cI (cI (cB (cA (cB (cB (cB (cB (cF Tryz.f57))))))))) Q:=by
 induction k with
 |zero=>intro v6 v27 o h;cases h
 |succ k ih =>
  intro v6 v27 o h hQ
  rw[aN] at h
  refine WL.round (Wp.seq (rg [6,25,26,27,28] [1006] [(6,.row 1006),(25,eU v25),(26,vi v26),(27,vi v27),(28,vb (decide (v27<v26)))] [(1006,25,[rc9 v6])] (To.ah (Wp.seq (cn h (fun h=>?_) (fun h=>?_))))))
  ·refine Wp.skip (To.ah (Wp.seq (Wp.block (Wp.seq ?_))))
   obtain⟨hc4,h⟩:=ax h
   refine r0 [6,8,25,26,27] [1006] [(6,.row 1006),(8,rs8 (vm v25 v27)),(25,eU v25),(26,vi v26),(27,vi v27)] [(1006,25,[rc9 v6])] (ai.cons hc4 ai.nil) (To.ah ?_)
   obtain⟨hc3,h⟩:=ax h
   refine rr [] [(2,rs8 (v6++(vm v25 v27)))] [] [6,25,26,27] [33] [(6,.row 33),(25,eU v25),(26,vi v26),(27,vi v27)] [(33,25,[rc9 (v6++(vm v25 v27))])] [_,(gY zx3 bY v6 (List.flatMap bY (vm v25 v27)) (List.length (vm v25 v27)) (rs8 (v6++(vm v25 v27)))/\aM (rs8 (v6++(vm v25 v27))))] (ai.cons hc3 (ai.cons (iI rfl rfl (bg _)) ai.nil)) (To.aR (To.ah (rg [6,25,26,27] [33] [(6,.row 33),(25,eU v25),(26,vi v26),(NV v27)] [(33,25,[rc9 (v6++(vm v25 v27))])] (nt [6,25,26,27] [33] [(33,1006)] [6,25,26,27] [1006] [(6,.row 1006),(25,eU v25),(26,vi v26),(NV v27)] [(1006,25,[rc9 (v6++(vm v25 v27))])] (To.again ?_)))))
   exact ih (v6++(vm v25 v27)) (IntKind.wrap .i64 (v27+1)) _ h hQ
  ·refine Wp.exit (To.aK (To.aK (kt [6] [1006] [(6,.row 1006)] [(1006,25,[rc9 v6])] ?_)))
   cases h
   exact hQ
def dU(n:Nat)(a0:List (List (af))):Option ((List (af))) :=
 (aV n a0 a0 (List.length a0:Int) n 0 0).bind fun o1 =>
 if(decide (0<=o1/\o1*73<=(limit:Int)))=true then((aN n a0 (List.length a0:Int) n ([]:List (af)) 0).bind fun o3 =>
 some o3) else none
theorem qt(n:Nat)(a0:List (List (af)))(r:(List (af)))(h:dU n a0=some r):aJ Tryz.prog 57 [eU a0] (rs8 r):=by
 unfold dU at h
 refine xo Tryz.f57 rfl fun F0 w0 _=>?_
 refine Wp.seq (rg [0] [] [(0,eU a0)] [] (To.ah (Wp.seq (rg [0,3] [] [(0,eU a0),(3,vi 0)] [] (To.ah (Wp.seq (Wp.seq (rg [0,3,9,10,11] [] [(0,eU a0),(3,vi 0),(9,eU a0),(10,vi (List.length a0:Int)),(11,vi 0)] [] (To.ah (Wp.block ?_))))))))))
 obtain⟨o1,ho1,h⟩:=au h
 refine kw [0,3,9,10,11] [] [(0,eU a0),(3,vi 0),(9,eU a0),(10,vi (List.length a0:Int)),(11,vi 0)] [] (Wp.bE (oS n a0 a0 (List.length a0:Int) n 0 0 o1 ho1 (To.aY (To.ah (Wp.seq ?_)))))
 obtain⟨u2,h⟩:=ax h
 refine rb [] 1 ⟨[],[(1,24)],[.val (.slice none 0 0),vi o1],[],.row 1,[(1,25,[rc9 []])]⟩ [0,6] [24] [(0,eU a0),(6,.row 24)] [(24,25,[rc9 []])] (Uk u2) (To.ah (Wp.seq (Wp.seq (rg [6,25,26,27] [24] [(6,.row 24),(25,eU a0),(26,vi (List.length a0:Int)),(27,vi 0)] [(24,25,[rc9 []])] (To.ah (Wp.block ?_))))))
 obtain⟨o3,ho3,h⟩:=au h
 refine nw [6,25,26,27] [24] [(24,1006)] [6,25,26,27] [1006] [(6,.row 1006),(25,eU a0),(26,vi (List.length a0:Int)),(27,vi 0)] [(1006,25,[rc9 []])] (Wp.bE (oQ n a0 (List.length a0:Int) n ([]:List (af)) 0 o3 ho3 (To.aY (To.ah (Wp.seq (rg [2] [1006] [(2,.row 1006)] [(1006,25,[rc9 o3])] (To.ah (Wp.ret (To.pre (St.settle (ks:=[1006]) (kk:=[2]) (kl:=[1006]) (K':=[(2,.row 1006)]) (L':=[(1006,25,[iY o3])]) (by kernel_rfl)) (To.pre (St.xk [2] (K':=[(2,rs8 o3)]) (by kernel_rfl)) ?_))))))))))
 cases h
 exact To.done hΓ (by kernel_rfl)
theorem Ia(l:List (Ls)):aM (.recs [] IL l):=⟨Nat.le_of_ble_eq_true (by kernel_rfl),fun _=>⟨rfl,rfl⟩⟩
theorem Ew(l:List (List (af))):aM (.recs [] Dk l):=⟨Nat.le_of_ble_eq_true (by kernel_rfl),fun _=>⟨rfl,rfl⟩⟩
def uZ(n:Nat)(a0:af)(a1:Bs):Option (af) :=
 (jE n a0 a1).bind fun r1 =>
 if(decide (r1<0))=true then some a0
 else(if(decide (0<=r1/\r1<=(List.length a0.ak:Int)))=true then(if(decide (0<=(IntKind.wrap .i64 (r1+1))/\(IntKind.wrap .i64 (r1+1))<=(List.length a0.ak:Int)))=true then((fY n [(List.take (Int.toNat r1) a0.ak),(List.drop (Int.toNat (IntKind.wrap .i64 (r1+1))) a0.ak)]).bind fun r2 =>
 if(decide (0<=r1/\r1<=(List.length a0.aj:Int)))=true then(if(decide (0<=(IntKind.wrap .i64 (r1+1))/\(IntKind.wrap .i64 (r1+1))<=(List.length a0.aj:Int)))=true then((dU n [(List.take (Int.toNat r1) a0.aj),(List.drop (Int.toNat (IntKind.wrap .i64 (r1+1))) a0.aj)]).bind fun r3 =>
 some (af.mk 3 [] r2 r3)) else none) else none) else none) else none)
theorem Kp(n:Nat)(a0:af)(a1:Bs)(r:af)(h:uZ n a0 a1=some r):aJ Tryz.prog 35 [.agg (qc6 a0),.str a1] (.agg (qc6 r)):=by
 unfold uZ at h
 refine xo Tryz.f35 rfl fun F0 w0 _=>?_
 refine Wp.seq (rg [1,2,4] [2,4] [(1,.str a1),(2,.own 2 0),(4,.own 4 0)] [(2,25,qc6 a0),(4,25,[vi 0,.str [],.val (.slice none 0 0),.val (.slice none 0 0)])] (To.ah (Wp.seq ?_)))
 obtain⟨r1,hr1,h⟩:=au h
 refine rc [] 2 [2,4,5] [2,4] [(2,.own 2 0),(4,.own 4 0),(5,vi r1)] [(2,25,qc6 a0),(4,25,[vi 0,.str [],.val (.slice none 0 0),.val (.slice none 0 0)])] (vo n a0 a1 _ hr1) (To.ah (Wp.seq (Wp.seq (rg [2,4,5,10] [2,4] [(2,.own 2 0),(4,.own 4 0),(5,vi r1),(10,vb (decide (r1<0)))] [(2,25,qc6 a0),(4,25,[vi 0,.str [],.val (.slice none 0 0),.val (.slice none 0 0)])] (To.ah (cn h (fun h=>?_) (fun h=>?_)))))))
 ·refine Wp.seq (rg [4] [4] [(4,.own 4 0)] [(4,25,qc6 a0)] (To.ah (Wp.ret (To.aA ?_))))
  cases h
  exact To.done hΓ (by kernel_rfl)
 ·refine Wp.skip (To.ah (Wp.seq ?_))
  obtain⟨hc4,h⟩:=ax h
  obtain⟨hc5,h⟩:=ax h
  obtain⟨r2,hr2,h⟩:=au h
  obtain⟨hc6,h⟩:=ax h
  obtain⟨hc7,h⟩:=ax h
  obtain⟨r3,hr3,h⟩:=au h
  refine Wp.bI hm hΓ [(9,eP [(List.take (Int.toNat r1) a0.ak),(List.drop (Int.toNat (IntKind.wrap .i64 (r1+1))) a0.ak)]),(10,ls r2),(20,eU [(List.take (Int.toNat r1) a0.aj),(List.drop (Int.toNat (IntKind.wrap .i64 (r1+1))) a0.aj)]),(21,rs8 r3)] [4] [4] (K':=[(4,.own 4 0)]) (L':=[(4,25,[vi 3,.str [],ls r2,rs8 r3])]) (ob:=[(decide (0<=r1/\r1<=(List.length a0.ak:Int)))=true,(decide (0<=(IntKind.wrap .i64 (r1+1))/\(IntKind.wrap .i64 (r1+1))<=(List.length a0.ak:Int)))=true,(true=true->ck 1 [ls (List.take (Int.toNat r1) a0.ak),ls (List.drop (Int.toNat (IntKind.wrap .i64 (r1+1))) a0.ak)] 2 (eP [(List.take (Int.toNat r1) a0.ak),(List.drop (Int.toNat (IntKind.wrap .i64 (r1+1))) a0.ak)])/\aM (eP [(List.take (Int.toNat r1) a0.ak),(List.drop (Int.toNat (IntKind.wrap .i64 (r1+1))) a0.ak)])),(true=true->CX Tryz.prog 56 [eP [(List.take (Int.toNat r1) a0.ak),(List.drop (Int.toNat (IntKind.wrap .i64 (r1+1))) a0.ak)]] (ls r2)),(decide (0<=r1/\r1<=(List.length a0.aj:Int)))=true,(decide (0<=(IntKind.wrap .i64 (r1+1))/\(IntKind.wrap .i64 (r1+1))<=(List.length a0.aj:Int)))=true,(true=true->ck 1 [rs8 (List.take (Int.toNat r1) a0.aj),rs8 (List.drop (Int.toNat (IntKind.wrap .i64 (r1+1))) a0.aj)] 2 (eU [(List.take (Int.toNat r1) a0.aj),(List.drop (Int.toNat (IntKind.wrap .i64 (r1+1))) a0.aj)])/\aM (eU [(List.take (Int.toNat r1) a0.aj),(List.drop (Int.toNat (IntKind.wrap .i64 (r1+1))) a0.aj)])),(true=true->CX Tryz.prog 57 [eU [(List.take (Int.toNat r1) a0.aj),(List.drop (Int.toNat (IntKind.wrap .i64 (r1+1))) a0.aj)]] (rs8 r3))]) (by kernel_rfl) (ai.cons hc4 (ai.cons hc5 (ai.cons (fun _=>du (by kernel_rfl) rfl (by kernel_rfl) (Ia _)) (ai.cons (fun _=>cx (tu n [(List.take (Int.toNat r1) a0.ak),(List.drop (Int.toNat (IntKind.wrap .i64 (r1+1))) a0.ak)] _ hr2)) (ai.cons hc6 (ai.cons hc7 (ai.cons (fun _=>du (by kernel_rfl) rfl (by kernel_rfl) (Ew _)) (ai.cons (fun _=>cx (qt n [(List.take (Int.toNat r1) a0.aj),(List.drop (Int.toNat (IntKind.wrap .i64 (r1+1))) a0.aj)] _ hr3)) ai.nil)))))))) (To.ah (Wp.ret (kt [4] [4] [(4,.own 4 0)] [(4,25,[vi 3,.str [],ls r2,rs8 r3])] (To.weak (K':=[(4,.own 4 0)]) (L':=[(4,25,[vi 3,.str [],ls r2,tn4 r3])]) (.cons (.refl _) .nil) (.cons (.cons (.refl _) (.cons (.refl _) (.cons (.refl _) (.cons (.close _ _ _ _) .nil)))) .nil) ?_))))
  cases h
  exact To.done hΓ (by kernel_rfl)
def dn(n:Nat)(a0:Ls):Option ((Ls)) :=
 if(decide ((List.length ([]:Ls)+List.length a0)*(16+1)<=limit))=true then(some (([]:Ls)++a0)) else none
abbrev qy(x0:Ls):=(([]:Ls)++x0)
theorem lI(n:Nat)(a0:Ls)(r:(Ls))(h:dn n a0=some r):dh Tryz.prog 43 [ls a0] [] (.row 1) [(1,9,[rc1 r])]:=by
 unfold dn at h
 refine bo Tryz.f43 rfl fun F0 w0=>?_
 refine Wp.seq (rg [0] [] [(0,ls a0)] [] (To.ah (Wp.seq (Wp.seq (Wp.TQ (e:=9) (neg:=false) (t0:=0) (t3:=3) (t4:=4) (α:=Bs) (d:=[]) (enc:=aW) (l:=a0) Tryz.underlying22 rfl rfl rfl rfl rfl rfl ⟨Nat.le_of_ble_eq_true (by kernel_rfl),Nat.le_of_ble_eq_true (by kernel_rfl),by decide⟩ (by kernel_rfl) (fun hl=>?_) ?_)))))
 ·subst hl
  have h:(some ([]:Ls))=some r:=by simpa using h
  refine To.ah (Wp.cond (b:=true) (by kernel_rfl) (fun _=>?_) (fun hb=>by cases hb))
  refine Wp.seq (rg [2] [] [(2,.val (.slice none 0 0))] [] (To.ah (Wp.ret (To.aA (To.pre (St.Qb (t:=2) (k:=1002) (e:=9) (K':=[(2,.row 1002)]) (aI _) (by decide) (by kernel_rfl) (by kernel_rfl)) (kt [2] [1002] [(2,.row 1002)] [(1002,9,[rc1 []])] (To.pre (St.rename 1002 1 (by decide) (K':=[(2,.row 1)]) (L':=[(1,9,[rc1 []])]) (by kernel_rfl) (by kernel_rfl) (by kernel_rfl)) ?_)))))))
  cases h
  exact To.JJ hΓ [1] (by kernel_rfl) (by kernel_rfl)
 ·refine To.ah (Wp.cond (b:=false) (by kernel_rfl) (fun hb=>by cases hb) (fun _=>(Wp.skip (To.ah (Wp.seq ?_)))))
  obtain⟨hc1,h⟩:=ax h
  refine rr [] [(0,ls []),(2,ls (qy a0))] [] [2] [7] [(2,.row 7)] [(7,9,[rc1 (qy a0)])] [(ck 1 [] 0 (ls [])/\aM (ls [])),_,(gY [] aW ([]:Ls) (List.flatMap aW a0) (List.length a0) (ls (qy a0))/\aM (ls (qy a0)))] (ai.cons (du (by kernel_rfl) rfl (by kernel_rfl) (aI _)) (ai.cons hc1 (ai.cons (iI rfl rfl (aI _)) ai.nil))) (To.ah (Wp.ret (nt [2] [7] [(7,1002)] [2] [1002] [(2,.row 1002)] [(1002,9,[rc1 (qy a0)])] (To.pre (St.rename 1002 1 (by decide) (K':=[(2,.row 1)]) (L':=[(1,9,[rc1 (qy a0)])]) (by kernel_rfl) (by kernel_rfl) (by kernel_rfl)) ?_))))
  cases h
  exact To.JJ hΓ [1] (by kernel_rfl) (by kernel_rfl)
def dN(n:Nat)(a0:List (af)):Option ((List (af))) :=
 if(decide ((List.length ([]:List (af))+List.length a0)*(72+1)<=limit))=true then(some (([]:List (af))++a0)) else none
abbrev Ha(x0:List (af)):=(([]:List (af))++x0)
theorem qe(n:Nat)(a0:List (af))(r:(List (af)))(h:dN n a0=some r):dh Tryz.prog 54 [rs8 a0] [] (.row 1) [(1,25,[rc9 r])]:=by
 unfold dN at h
 refine bo Tryz.f54 rfl fun F0 w0=>?_
 refine Wp.seq (rg [0] [] [(0,rs8 a0)] [] (To.ah (Wp.seq (Wp.seq (Wp.TQ (e:=25) (neg:=false) (t0:=0) (t3:=3) (t4:=4) (α:=af) (d:=zx3) (enc:=bY) (l:=a0) Tryz.underlying23 rfl rfl rfl rfl rfl rfl ⟨Nat.le_of_ble_eq_true (by kernel_rfl),Nat.le_of_ble_eq_true (by kernel_rfl),by decide⟩ (by kernel_rfl) (fun hl=>?_) ?_)))))
 ·subst hl
  have h:(some ([]:List (af)))=some r:=by simpa using h
  refine To.ah (Wp.cond (b:=true) (by kernel_rfl) (fun _=>?_) (fun hb=>by cases hb))
  refine Wp.seq (rg [2] [] [(2,.val (.slice none 0 0))] [] (To.ah (Wp.ret (To.aA (To.pre (St.Qb (t:=2) (k:=1002) (e:=25) (K':=[(2,.row 1002)]) (bg _) (by decide) (by kernel_rfl) (by kernel_rfl)) (kt [2] [1002] [(2,.row 1002)] [(1002,25,[rc9 []])] (To.pre (St.rename 1002 1 (by decide) (K':=[(2,.row 1)]) (L':=[(1,25,[rc9 []])]) (by kernel_rfl) (by kernel_rfl) (by kernel_rfl)) ?_)))))))
  cases h
  exact To.JJ hΓ [1] (by kernel_rfl) (by kernel_rfl)
 ·refine To.ah (Wp.cond (b:=false) (by kernel_rfl) (fun hb=>by cases hb) (fun _=>(Wp.skip (To.ah (Wp.seq ?_)))))
  obtain⟨hc1,h⟩:=ax h
  refine rr [] [(0,rs8 []),(2,rs8 (Ha a0))] [] [2] [7] [(2,.row 7)] [(7,25,[rc9 (Ha a0)])] [(ck 4 [] 0 (rs8 [])/\aM (rs8 [])),_,(gY zx3 bY ([]:List (af)) (List.flatMap bY a0) (List.length a0) (rs8 (Ha a0))/\aM (rs8 (Ha a0)))] (ai.cons (du (by kernel_rfl) rfl (by kernel_rfl) (bg _)) (ai.cons hc1 (ai.cons (iI rfl rfl (bg _)) ai.nil))) (To.ah (Wp.ret (nt [2] [7] [(7,1002)] [2] [1002] [(2,.row 1002)] [(1002,25,[rc9 (Ha a0)])] (To.pre (St.rename 1002 1 (by decide) (K':=[(2,.row 1)]) (L':=[(1,25,[rc9 (Ha a0)])]) (by kernel_rfl) (by kernel_rfl) (by kernel_rfl)) ?_))))
  cases h
  exact To.JJ hΓ [1] (by kernel_rfl) (by kernel_rfl)
def rJ(n:Nat)(a0:af)(a1:Bs)(a2:af):Option (af) :=
 if(bif (a0.av != 3) then(a0.av != 0) else false)=true then some a0
 else((dn n a0.ak).bind fun r1 =>
 (dN n a0.aj).bind fun r2 =>
 (jE n (af.mk 3 [] r1 r2) a1).bind fun r3 =>
 if(decide (r3>=0))=true then(if(decide (0<=r3/\r3<(List.length r2:Int)))=true then(some (af.mk 3 [] r1 (List.set r2 (Int.toNat r3) a2))) else none)
 else(if(decide ((List.length r1+List.length ([a1]:Ls))*(16+1)<=limit))=true then(if(decide ((List.length r2+List.length ([a2]:List (af)))*(72+1)<=limit))=true then(some (af.mk 3 [] (r1++([a1]:Ls)) (r2++([a2]:List (af))))) else none) else none))
theorem Ab(n:Nat)(a0:af)(a1:Bs)(a2:af)(r:af)(h:rJ n a0 a1 a2=some r):aJ Tryz.prog 34 [.agg (qc6 a0),.str a1,.agg (qc6 a2)] (.agg (qc6 r)):=by
 unfold rJ at h
 refine xo Tryz.f34 rfl fun F0 w0 _=>?_
 refine Wp.seq (rg [1,3,5,6] [3,5,6] [(1,.str a1),(3,.own 3 0),(5,.own 5 0),(6,.own 6 0)] [(3,25,qc6 a0),(5,25,qc6 a2),(6,25,[vi 0,.str [],.val (.slice none 0 0),.val (.slice none 0 0)])] (To.ah (Wp.seq (Wp.seq (rg [1,3,5,6,16] [3,5,6] [(1,.str a1),(3,.own 3 0),(5,.own 5 0),(6,.own 6 0),(16,vb (bif (a0.av != 3) then(a0.av != 0) else false))] [(3,25,qc6 a0),(5,25,qc6 a2),(6,25,[vi 0,.str [],.val (.slice none 0 0),.val (.slice none 0 0)])] (To.ah (cn h (fun h=>?_) (fun h=>?_))))))))
 ·refine Wp.seq (rg [6] [6] [(6,.own 6 0)] [(6,25,qc6 a0)] (To.ah (Wp.ret (To.aA ?_))))
  cases h
  exact To.done hΓ (by kernel_rfl)
 ·refine Wp.skip (To.ah (Wp.seq ?_))
  obtain⟨r1,hr1,h⟩:=au h
  obtain⟨r2,hr2,h⟩:=au h
  refine Wp.Hq hm hΓ [] [] [(2,⟨[],[(1,20)],[ls a0.ak],[],.row 1,[(1,9,[rc1 r1])]⟩),(5,⟨[],[(1,23)],[rs8 a0.aj],[],.row 1,[(1,25,[rc9 r2])]⟩)] [1,3,5,6,7,16,18,19,20,21,22,23,24] [3,5,6,7,20,23] [1,5,6,7] [5,6,7,20,23] (K':=[(1,.str a1),(5,.own 5 0),(6,.own 6 0),(7,.own 7 0)]) (L':=[(5,25,qc6 a2),(6,25,[vi 0,.str [],.val (.slice none 0 0),.val (.slice none 0 0)]),(7,25,[vi 3,.str [],.row 20,.row 23]),(20,9,[rc1 r1]),(23,25,[rc9 r2])]) (ob:=[AX (dh Tryz.prog) 43 [ls a0.ak] [] ⟨[],[(1,20)],[ls a0.ak],[],.row 1,[(1,9,[rc1 r1])]⟩,AX (dh Tryz.prog) 54 [rs8 a0.aj] [] ⟨[],[(1,23)],[rs8 a0.aj],[],.row 1,[(1,25,[rc9 r2])]⟩]) (by kernel_rfl) (by kernel_rfl) (ai.cons (⟨(lI n a0.ak _ hr1),by kernel_rfl,by kernel_rfl⟩) (ai.cons (⟨(qe n a0.aj _ hr2),by kernel_rfl,by kernel_rfl⟩) ai.nil)) ?_
  refine To.ah (Wp.seq (Wp.seq ?_))
  obtain⟨r3,hr3,h⟩:=au h
  refine rb [] 2 ⟨[(1000000,20),(1000001,23)],[(1000000,20),(1000001,23)],[.agg [vi 3,.str [],.row 1000000,.row 1000001],.str a1],[(1000000,9,[rc1 r1]),(1000001,25,[rc9 r2])],vi r3,[(1000000,9,[rc1 r1]),(1000001,25,[rc9 r2])]⟩ [1,5,6,7,8] [5,6,7,20,23] [(1,.str a1),(5,.own 5 0),(6,.own 6 0),(7,.own 7 0),(8,vi r3)] [(5,25,qc6 a2),(6,25,[vi 0,.str [],.val (.slice none 0 0),.val (.slice none 0 0)]),(7,25,[vi 3,.str [],.row 20,.row 23]),(20,9,[rc1 r1]),(23,25,[rc9 r2])] (JD (qI (.cons (.agg (.cons (.refl _) (.cons (.refl _) (.cons (.refl _) (.cons (.close _ _ _ _) .nil))))) (.cons (.refl _) .nil)) (vo n (af.mk 3 [] r1 r2) a1 _ hr3)) (by kernel_rfl) (by kernel_rfl) (by kernel_rfl)) (To.ah (Wp.seq (rg [1,5,6,7,8,29] [5,6,7,20,23] [(1,.str a1),(5,.own 5 0),(6,.own 6 0),(7,.own 7 0),(8,vi r3),(29,vb (decide (r3>=0)))] [(5,25,qc6 a2),(6,25,[vi 0,.str [],.val (.slice none 0 0),.val (.slice none 0 0)]),(7,25,[vi 3,.str [],.row 20,.row 23]),(20,9,[rc1 r1]),(23,25,[rc9 r2])] (To.ah (cn h (fun h=>?_) (fun h=>?_))))))
  ·refine Wp.seq ?_
   obtain⟨hc4,h⟩:=ax h
   refine rr [] [(5,rs8 (List.set r2 (Int.toNat r3) a2))] [] [6,7] [6,7,20,23] [(6,.own 6 0),(7,.own 7 0)] [(6,25,[vi 0,.str [],.val (.slice none 0 0),.val (.slice none 0 0)]),(7,25,[vi 3,.str [],.row 20,.row 23]),(20,9,[rc1 r1]),(23,25,[rc9 (List.set r2 (Int.toNat r3) a2)])] [_,_,FO zx3 bY r2 r3 0 (qc6 a2) (rs8 (List.set r2 (Int.toNat r3) a2))] (ai.cons hc4 (ai.cons hc4 (ai.cons (RU (by kernel_rfl)) ai.nil))) (To.ah (Wp.seq (rg [6] [6,20,23] [(6,.own 6 0)] [(6,25,[vi 3,.str [],.row 20,.row 23]),(20,9,[rc1 r1]),(23,25,[rc9 (List.set r2 (Int.toNat r3) a2)])] (To.ah (Wp.ret (To.aA (To.pre (St.settle (ks:=[20,23]) (kk:=[6]) (kl:=[6,20,23]) (K':=[(6,.own 6 0)]) (L':=[(6,25,[vi 3,.str [],.row 20,.row 23]),(20,9,[rc2 r1]),(23,25,[iY (List.set r2 (Int.toNat r3) a2)])]) (by kernel_rfl)) (To.pre (St.uS [6] (L':=[(6,25,[vi 3,.str [],ls r1,rs8 (List.set r2 (Int.toNat r3) a2)]),(20,9,[rc2 r1]),(23,25,[iY (List.set r2 (Int.toNat r3) a2)])]) (by kernel_rfl)) (To.weak (K':=[(6,.own 6 0)]) (L':=[(6,25,[vi 3,.str [],ls r1,tn4 (List.set r2 (Int.toNat r3) a2)]),(20,9,[rc2 r1]),(23,25,[iY (List.set r2 (Int.toNat r3) a2)])]) (.cons (.refl _) .nil) (.cons (.cons (.refl _) (.cons (.refl _) (.cons (.refl _) (.cons (.close _ _ _ _) .nil)))) (.cons (.cons (.refl _) .nil) (.cons (.cons (.refl _) .nil) .nil))) ?_)))))))))
   cases h
   exact To.done hΓ (by kernel_rfl)
  ·refine Wp.skip (To.ah (Wp.seq ?_))
   obtain⟨hc5,h⟩:=ax h
   obtain⟨hc6,h⟩:=ax h
   refine Wp.Hq hm hΓ [] [(3,ls [a1]),(4,ls (r1++([a1]:Ls))),(8,rs8 [a2]),(9,rs8 (r2++([a2]:List (af))))] [] [1,5,6,7,8,29,36,37,38,39,40,41,42,43,44,45,46,47] [5,6,7,20,23,39,40,44,45] [6,7] [6,7,40,45] (K':=[(6,.own 6 0),(7,.own 7 0)]) (L':=[(6,25,[vi 0,.str [],.val (.slice none 0 0),.val (.slice none 0 0)]),(7,25,[vi 3,.str [],.row 40,.row 45]),(40,9,[rc1 (r1++([a1]:Ls))]),(45,25,[rc9 (r2++([a2]:List (af)))])]) (ob:=[(ck 1 [.str a1] 1 (ls [a1])/\aM (ls [a1])),(decide ((List.length r1+List.length ([a1]:Ls))*(16+1)<=limit))=true,(gY [] aW r1 (List.flatMap aW ([a1]:Ls)) (List.length ([a1]:Ls)) (ls (r1++([a1]:Ls)))/\aM (ls (r1++([a1]:Ls)))),(Ln a2),(decide ((List.length r2+List.length ([a2]:List (af)))*(72+1)<=limit))=true,(gY zx3 bY r2 (List.flatMap bY ([a2]:List (af))) (List.length ([a2]:List (af))) (rs8 (r2++([a2]:List (af))))/\aM (rs8 (r2++([a2]:List (af)))))]) (by kernel_rfl) (by kernel_rfl) (ai.cons (du (by kernel_rfl) rfl (by kernel_rfl) (aI _)) (ai.cons hc5 (ai.cons (iI rfl rfl (aI _)) (ai.cons (du (by kernel_rfl) rfl (by kernel_rfl) (bg _)) (ai.cons hc6 (ai.cons (iI rfl rfl (bg _)) ai.nil)))))) (To.ah (Wp.seq (rg [6] [6,40,45] [(6,.own 6 0)] [(6,25,[vi 3,.str [],.row 40,.row 45]),(40,9,[rc1 (r1++([a1]:Ls))]),(45,25,[rc9 (r2++([a2]:List (af)))])] (To.ah (Wp.ret (To.pre (St.settle (ks:=[40,45]) (kk:=[6]) (kl:=[6,40,45]) (K':=[(6,.own 6 0)]) (L':=[(6,25,[vi 3,.str [],.row 40,.row 45]),(40,9,[rc2 (r1++([a1]:Ls))]),(45,25,[iY (r2++([a2]:List (af)))])]) (by kernel_rfl)) (To.pre (St.uS [6] (L':=[(6,25,[vi 3,.str [],ls (r1++([a1]:Ls)),rs8 (r2++([a2]:List (af)))]),(40,9,[rc2 (r1++([a1]:Ls))]),(45,25,[iY (r2++([a2]:List (af)))])]) (by kernel_rfl)) (To.weak (K':=[(6,.own 6 0)]) (L':=[(6,25,[vi 3,.str [],ls (r1++([a1]:Ls)),tn4 (r2++([a2]:List (af)))]),(40,9,[rc2 (r1++([a1]:Ls))]),(45,25,[iY (r2++([a2]:List (af)))])]) (.cons (.refl _) .nil) (.cons (.cons (.refl _) (.cons (.refl _) (.cons (.refl _) (.cons (.close _ _ _ _) .nil)))) (.cons (.cons (.refl _) .nil) (.cons (.cons (.refl _) .nil) .nil))) ?_))))))))
   cases h
   exact To.done hΓ (by kernel_rfl)
def kL(n:Nat)(a0:Ls):Option ((Ls)) :=
 if(decide ((List.length ([]:Ls)+List.length a0)*(16+1)<=limit))=true then(if(decide (List.length (([]:Ls)++a0)*17<=limit))=true then(if(decide (List.length (Sh.sort (([]:Ls)++a0))*17<=limit))=true then(some (Lib.compact (Sh.sort (([]:Ls)++a0)))) else none) else none) else none
theorem ud(n:Nat)(a0:Ls)(r:(Ls))(h:kL n a0=some r):aJ Tryz.prog 36 [ls a0] (ls r):=by
 unfold kL at h
 refine xo Tryz.f36 rfl fun F0 w0 _=>?_
 refine Wp.seq (rg [0] [] [(0,ls a0)] [] (To.ah (Wp.seq ?_)))
 obtain⟨hc3,h⟩:=ax h
 refine rr [] [(0,ls []),(2,ls (qy a0))] [] [3] [6] [(3,.row 6)] [(6,9,[rc1 (qy a0)])] [(ck 1 [] 0 (ls [])/\aM (ls [])),_,(gY [] aW ([]:Ls) (List.flatMap aW a0) (List.length a0) (ls (qy a0))/\aM (ls (qy a0)))] (ai.cons (du (by kernel_rfl) rfl (by kernel_rfl) (aI _)) (ai.cons hc3 (ai.cons (iI rfl rfl (aI _)) ai.nil))) (To.ah (Wp.seq ?_))
 obtain⟨u1,h⟩:=ax h
 refine rb [] 1 ⟨[(1000000,6)],[(1000000,6)],[.row 1000000],[(1000000,9,[rc1 (qy a0)])],.tup [],[(1000000,9,[rc1 (Sh.sort (qy a0))])]⟩ [3] [6] [(3,.row 6)] [(6,9,[rc1 (Sh.sort (qy a0))])] (Sh.Us u1) (To.ah (Wp.seq ?_))
 obtain⟨u2,h⟩:=ax h
 refine rb [] 1 ⟨[(1000000,6)],[],[.row 1000000],[(1000000,9,[rc1 (Sh.sort (qy a0))])],ls (Lib.compact (Sh.sort (qy a0))),[]⟩ [2] [] [(2,ls (Lib.compact (Sh.sort (qy a0))))] [] (Sh.P4 u2) (To.ah (Wp.ret ?_))
 cases h
 exact To.done hΓ (by kernel_rfl)
def qm(n:Nat)(v9:Bs)(b10:af)(b1000000:af)(b1000001:Ls)(b1000002:af)(b1000003:Ls)(b1000004:af)(b1000005:Bool):Option ((Ls)×af×Bool) :=
 (uj n b10 b1000001).bind fun r1 =>
 if(!r1)=true then(if(decide ((List.length b1000003+List.length ([v9]:Ls))*(16+1)<=limit))=true then(some ((b1000003++([v9]:Ls)),b1000004,true)) else none)
 else((uZ n b10 sG).bind fun r3 =>
 (rJ n b1000004 v9 r3).bind fun r4 =>
 some (b1000003,r4,true))
theorem CZ(n:Nat)(v9:Bs)(b10:af)(b1000000:af)(b1000001:Ls)(b1000002:af)(b1000003:Ls)(b1000004:af)(b1000005:Bool)(o:(Ls)×af×Bool)(h:qm n v9 b10 b1000000 b1000001 b1000002 b1000003 b1000004 b1000005=some o)(hQ:To 36 F0 w0 [(3,.own 1000001 0),(6,.own 1000003 0),(7,.own 1000004 0),(8,.own 1000005 0)] [(504180,9,[rc1 o.1]),(1000000,25,qc6 b1000000),(1000001,22,[ls b1000001]),(1000002,25,qc6 b1000002),(1000003,22,[.row 504180]),(1000004,25,qc6 o.2.1),(1000005,4,[vb o.2.2])] .normal Q):Wp Tryz.prog 36 F0 w0 [(3,.own 1000001 0),(6,.own 1000003 0),(7,.own 1000004 0),(8,.own 1000005 0),(9,.str v9),(10,.own 10 0)] [(10,25,qc6 b10),(504180,9,[rc1 b1000003]),(1000000,25,qc6 b1000000),(1000001,22,[ls b1000001]),(1000002,25,qc6 b1000002),(1000003,22,[.row 504180]),(1000004,25,qc6 b1000004),(1000005,4,[vb b1000005])] (cRB (cI (cB (cA (cB (cB (cB (cB (cF Tryz.f9))))))))) Q:=by
 unfold qm at h
 refine Wp.block (Wp.seq (rg [3,6,7,8,9,10] [10,504180,1000000,1000001,1000002,1000003,1000004,1000005] [(3,.own 1000001 0),(6,.own 1000003 0),(7,.own 1000004 0),(8,.own 1000005 0),(9,.str v9),(10,.own 10 0)] [(10,25,qc6 b10),(504180,9,[rc1 b1000003]),(1000000,25,qc6 b1000000),(1000001,22,[ls b1000001]),(1000002,25,qc6 b1000002),(1000003,22,[.row 504180]),(1000004,25,qc6 b1000004),(1000005,4,[vb true])] (To.ah (Wp.seq (Wp.seq ?_)))))
 obtain⟨r1,hr1,h⟩:=au h
 refine rc [] 2 [3,6,7,8,9,10,19] [10,504180,1000000,1000001,1000002,1000003,1000004,1000005] [(3,.own 1000001 0),(6,.own 1000003 0),(7,.own 1000004 0),(8,.own 1000005 0),(9,.str v9),(10,.own 10 0),(19,vb (!r1))] [(10,25,qc6 b10),(504180,9,[rc1 b1000003]),(1000000,25,qc6 b1000000),(1000001,22,[ls b1000001]),(1000002,25,qc6 b1000002),(1000003,22,[.row 504180]),(1000004,25,qc6 b1000004),(1000005,4,[vb true])] (yU n b10 b1000001 _ hr1) (To.ah (cn h (fun h=>?_) (fun h=>?_)))
 ·refine Wp.seq ?_
  obtain⟨hc2,h⟩:=ax h
  refine rr [] [(2,ls [v9]),(3,ls (b1000003++([v9]:Ls)))] [] [3,6,7,8] [23,1000000,1000001,1000002,1000003,1000004,1000005] [(3,.own 1000001 0),(6,.own 1000003 0),(7,.own 1000004 0),(8,.own 1000005 0)] [(23,9,[rc1 (b1000003++([v9]:Ls))]),(1000000,25,qc6 b1000000),(1000001,22,[ls b1000001]),(1000002,25,qc6 b1000002),(1000003,22,[.row 23]),(1000004,25,qc6 b1000004),(1000005,4,[vb true])] [(ck 1 [.str v9] 1 (ls [v9])/\aM (ls [v9])),_,(gY [] aW b1000003 (List.flatMap aW ([v9]:Ls)) (List.length ([v9]:Ls)) (ls (b1000003++([v9]:Ls)))/\aM (ls (b1000003++([v9]:Ls))))] (ai.cons (du (by kernel_rfl) rfl (by kernel_rfl) (aI _)) (ai.cons hc2 (ai.cons (iI rfl rfl (aI _)) ai.nil))) (To.ah (Wp.exit (To.aK (To.aY (nt [3,6,7,8] [23,1000000,1000001,1000002,1000003,1000004,1000005] [(23,504180)] [3,6,7,8] [504180,1000000,1000001,1000002,1000003,1000004,1000005] [(3,.own 1000001 0),(6,.own 1000003 0),(7,.own 1000004 0),(8,.own 1000005 0)] [(504180,9,[rc1 (b1000003++([v9]:Ls))]),(1000000,25,qc6 b1000000),(1000001,22,[ls b1000001]),(1000002,25,qc6 b1000002),(1000003,22,[.row 504180]),(1000004,25,qc6 b1000004),(1000005,4,[vb true])] ?_)))))
  cases h
  exact hQ
 ·refine Wp.skip (To.ah ?_)
  obtain⟨r3,hr3,h⟩:=au h
  obtain⟨r4,hr4,h⟩:=au h
  refine Wp.bI hm hΓ [(3,.agg (qc6 r3)),(4,.agg (qc6 r4))] [3,6,7,8] [504180,1000000,1000001,1000002,1000003,1000004,1000005] (K':=[(3,.own 1000001 0),(6,.own 1000003 0),(7,.own 1000004 0),(8,.own 1000005 0)]) (L':=[(504180,9,[rc1 b1000003]),(1000000,25,qc6 b1000000),(1000001,22,[ls b1000001]),(1000002,25,qc6 b1000002),(1000003,22,[.row 504180]),(1000004,25,qc6 r4),(1000005,4,[vb true])]) (ob:=[(true=true->CX Tryz.prog 35 [.agg (qc6 b10),.str sG] (.agg (qc6 r3))),(true=true->CX Tryz.prog 34 [.agg (qc6 b1000004),.str v9,.agg (qc6 r3)] (.agg (qc6 r4)))]) (by kernel_rfl) (ai.cons (fun _=>cx (Kp n b10 sG _ hr3)) (ai.cons (fun _=>cx (Ab n b1000004 v9 r3 _ hr4)) ai.nil)) (To.aR (kt [3,6,7,8] [504180,1000000,1000001,1000002,1000003,1000004,1000005] [(3,.own 1000001 0),(6,.own 1000003 0),(7,.own 1000004 0),(8,.own 1000005 0)] [(504180,9,[rc1 b1000003]),(1000000,25,qc6 b1000000),(1000001,22,[ls b1000001]),(1000002,25,qc6 b1000002),(1000003,22,[.row 504180]),(1000004,25,qc6 r4),(1000005,4,[vb true])] ?_))
  cases h
  exact hQ
def gI(n:Nat)(b1000000:af)(b1000001:Ls)(b1000002:af):List (Bs×af)->(Ls)->af->Bool->Option ((Ls)×af×Bool)
 |[],b1000003,b1000004,b1000005=>some (b1000003,b1000004,b1000005)
 |x::r,b1000003,b1000004,b1000005=>(qm n x.1 x.2 b1000000 b1000001 b1000002 b1000003 b1000004 b1000005).bind fun o1 =>
 gI n b1000000 b1000001 b1000002 r o1.1 o1.2.1 o1.2.2
theorem B5(n:Nat)(b1000000:af)(b1000001:Ls)(b1000002:af)(x:(Bs×af))(r:List (Bs×af))(b1000003:Ls)(b1000004:af)(b1000005:Bool)(o:(Ls)×af×Bool)(h:gI n b1000000 b1000001 b1000002 (x::r) b1000003 b1000004 b1000005=some o){F0:Fz}{w0:Pt Tryz.prog}{Lx:aG}:Wp Tryz.prog 36 F0 w0 [(3,.own 1000001 0),(6,.own 1000003 0),(7,.own 1000004 0),(8,.own 1000005 0),(9,.str x.1),(10,.own 10 0)] [(10,25,qc6 x.2),(504180,9,[rc1 b1000003]),(1000000,25,qc6 b1000000),(1000001,22,[ls b1000001]),(1000002,25,qc6 b1000002),(1000003,22,[.row 504180]),(1000004,25,qc6 b1000004),(1000005,4,[vb b1000005])] (cRB (cI (cB (cA (cB (cB (cB (cB (cF Tryz.f9))))))))) (ny F0 w0 (fun(s:(Ls)×af×Bool)=>gI n b1000000 b1000001 b1000002 r s.1 s.2.1 s.2.2=some o) (fun(s:(Ls)×af×Bool)=>[(504180,9,[rc1 s.1]),(1000000,25,qc6 b1000000),(1000001,22,[ls b1000001]),(1000002,25,qc6 b1000002),(1000003,22,[.row 504180]),(1000004,25,qc6 s.2.1),(1000005,4,[vb s.2.2])]) none Lx):=by
 rw[gI] at h
 obtain⟨o1,ho1,h⟩:=au h
 refine kw [3,6,7,8,9,10] [10,504180,1000000,1000001,1000002,1000003,1000004,1000005] [(3,.own 1000001 0),(6,.own 1000003 0),(7,.own 1000004 0),(8,.own 1000005 0),(9,.str x.1),(10,.own 10 0)] [(10,25,qc6 x.2),(504180,9,[rc1 b1000003]),(1000000,25,qc6 b1000000),(1000001,22,[ls b1000001]),(1000002,25,qc6 b1000002),(1000003,22,[.row 504180]),(1000004,25,qc6 b1000004),(1000005,4,[vb b1000005])] (CZ n x.1 x.2 b1000000 b1000001 b1000002 b1000003 b1000004 b1000005 o1 ho1 (kt [3,6,7,8] [504180,1000000,1000001,1000002,1000003,1000004,1000005] [(3,.own 1000001 0),(6,.own 1000003 0),(7,.own 1000004 0),(8,.own 1000005 0)] [(504180,9,[rc1 o1.1]),(1000000,25,qc6 b1000000),(1000001,22,[ls b1000001]),(1000002,25,qc6 b1000002),(1000003,22,[.row 504180]),(1000004,25,qc6 o1.2.1),(1000005,4,[vb o1.2.2])] ?_))
 exact To.round (o1.1,o1.2.1,o1.2.2) [504180,1000000,1000001,1000002,1000003,1000004,1000005] h (by kernel_rfl)
def lg(n:Nat)(v29:Bool)(b2:af)(b4:af)(b6:Ls)(b7:af):Option (af) :=
 if v29=true then((rJ n b2 jV b7).bind fun r3 =>
 some r3)
 else some b2
theorem BL(n:Nat)(v29:Bool)(b2:af)(b4:af)(b6:Ls)(b7:af)(o:af)(h:lg n v29 b2 b4 b6 b7=some o)(hQ:To 36 F0 w0 [(2,.own 2 0),(4,.own 4 0),(6,.own 6 0)] [(2,25,qc6 o),(4,25,qc6 b4),(6,22,[.row 4360]),(4360,9,[rc1 b6])] .normal Q):Wp Tryz.prog 36 F0 w0 [(2,.own 2 0),(4,.own 4 0),(6,.own 6 0),(7,.own 7 0),(29,vb v29)] [(2,25,qc6 b2),(4,25,qc6 b4),(6,22,[.row 4360]),(7,25,qc6 b7),(4360,9,[rc1 b6])] (cB (cA (cB (cB (cB (cB (cB (cF Tryz.f9)))))))) Q:=by
 unfold lg at h
 refine cn h (fun h=>?_) (fun h=>?_)
 ·obtain⟨r3,hr3,h⟩:=au h
  refine rc [] 2 [2,4,6] [2,4,6,4360] [(2,.own 2 0),(4,.own 4 0),(6,.own 6 0)] [(2,25,qc6 r3),(4,25,qc6 b4),(6,22,[.row 4360]),(4360,9,[rc1 b6])] (Ab n b2 jV b7 _ hr3) (kt [2,4,6] [2,4,6,4360] [(2,.own 2 0),(4,.own 4 0),(6,.own 6 0)] [(2,25,qc6 r3),(4,25,qc6 b4),(6,22,[.row 4360]),(4360,9,[rc1 b6])] ?_)
  cases h
  exact hQ
 ·refine Wp.skip (kt [2,4,6] [2,4,6,4360] [(2,.own 2 0),(4,.own 4 0),(6,.own 6 0)] [(2,25,qc6 b2),(4,25,qc6 b4),(6,22,[.row 4360]),(4360,9,[rc1 b6])] ?_)
  cases h
  exact hQ
def kK(n:Nat)(a0:af)(a1:Ls):Option (af×(Ls)) :=
 (mg n a0).bind fun xs1 =>
 (gI n a0 a1 (af.mk 0 [] [] []) xs1 [] (af.mk 3 [] [] []) false).bind fun o2 =>
 (lg n o2.2.2 a0 (af.mk 0 [] [] []) o2.1 o2.2.1).bind fun o3 =>
 (kL n o2.1).bind fun r4 =>
 some (o3,r4)
theorem qk(n:Nat)(a0:af)(a1:Ls)(r:af×(Ls))(h:kK n a0 a1=some r):aJ Tryz.prog 9 [.agg (qc6 a0),ls a1] (.tup [.agg (qc6 r.1),ls r.2]):=by
 unfold kK at h
 refine vq (fn:=Tryz.f9) (by kernel_rfl) rfl (by kernel_rfl) (Nat.le_of_ble_eq_true (by kernel_rfl)) fun F0 w0 _=>?_
 refine kw [0,1] [] [(0,.agg (qc6 a0)),(1,ls a1)] [] (Wp.seq (rg [2,3,4] [2,3,4] [(2,.own 2 0),(3,.own 3 0),(4,.own 4 0)] [(2,25,qc6 a0),(3,22,[ls a1]),(4,25,[vi 0,.str [],.val (.slice none 0 0),.val (.slice none 0 0)])] (To.ah (Wp.seq (rg [2,3,4,6] [2,3,4,6] [(2,.own 2 0),(3,.own 3 0),(4,.own 4 0),(6,.own 6 0)] [(2,25,qc6 a0),(3,22,[ls a1]),(4,25,[vi 0,.str [],.val (.slice none 0 0),.val (.slice none 0 0)]),(6,22,[.val (.slice none 0 0)])] (To.ah (Wp.seq (rg [2,3,4,6,7] [2,3,4,6,7] [(2,.own 2 0),(3,.own 3 0),(4,.own 4 0),(6,.own 6 0),(7,.own 7 0)] [(2,25,qc6 a0),(3,22,[ls a1]),(4,25,[vi 0,.str [],.val (.slice none 0 0),.val (.slice none 0 0)]),(6,22,[.val (.slice none 0 0)]),(7,25,[vi 3,.str [],.val (.slice none 0 0),.val (.slice none 0 0)])] (To.ah (Wp.seq ?_))))))))))
 refine rg [2,3,4,6,7,8] [2,3,4,6,7,8] [(2,.own 2 0),(3,.own 3 0),(4,.own 4 0),(6,.own 6 0),(7,.own 7 0),(8,.own 8 0)] [(2,25,qc6 a0),(3,22,[ls a1]),(4,25,[vi 0,.str [],.val (.slice none 0 0),.val (.slice none 0 0)]),(6,22,[.val (.slice none 0 0)]),(7,25,[vi 3,.str [],.val (.slice none 0 0),.val (.slice none 0 0)]),(8,4,[vb false])] (To.ah (Wp.seq (Wp.seq (rr [] [(1,.fn 50 [.el (qc6 a0)])] [] [2,3,4,6,7,8,13] [2,3,4,6,7,8] [(2,.own 2 0),(3,.own 3 0),(4,.own 4 0),(6,.own 6 0),(7,.own 7 0),(8,.own 8 0),(13,.fn 50 [.el (qc6 a0)])] [(2,25,qc6 a0),(3,22,[ls a1]),(4,25,[vi 0,.str [],.val (.slice none 0 0),.val (.slice none 0 0)]),(6,22,[.val (.slice none 0 0)]),(7,25,[vi 3,.str [],.val (.slice none 0 0),.val (.slice none 0 0)]),(8,4,[vb false])] [(true=true->CX Tryz.prog 32 [.agg (qc6 a0)] (.fn 50 [.el (qc6 a0)]))] (ai.cons (fun _=>cx (uU a0)) ai.nil) (To.ah (Wp.block ?_))))))
 obtain⟨xs1,hxs1,h⟩:=au h
 obtain⟨o2,ho2,h⟩:=au h
 refine kw [2,3,4,6,7,8,13] [2,3,4,6,7,8] [(2,.own 2 0),(3,.own 3 0),(4,.own 4 0),(6,.own 6 0),(7,.own 7 0),(8,.own 8 0),(13,.fn 50 [.el (qc6 a0)])] [(2,25,qc6 a0),(3,22,[ls a1]),(4,25,[vi 0,.str [],.val (.slice none 0 0),.val (.slice none 0 0)]),(6,22,[.val (.slice none 0 0)]),(7,25,[vi 3,.str [],.val (.slice none 0 0),.val (.slice none 0 0)]),(8,4,[vb false])] (Wp.pre (St.rK 6 0 4360 9 (aI _) (by decide) (by kernel_rfl) (L':=[(2,25,qc6 a0),(3,22,[ls a1]),(4,25,[vi 0,.str [],.val (.slice none 0 0),.val (.slice none 0 0)]),(6,22,[.row 4360]),(7,25,[vi 3,.str [],.val (.slice none 0 0),.val (.slice none 0 0)]),(8,4,[vb false])]) (by kernel_rfl)) (kw [2,3,4,6,7,8,13] [2,3,4,6,7,8,4360] [(2,.own 2 0),(3,.own 3 0),(4,.own 4 0),(6,.own 6 0),(7,.own 7 0),(8,.own 8 0),(13,.fn 50 [.el (qc6 a0)])] [(2,25,qc6 a0),(3,22,[ls a1]),(4,25,[vi 0,.str [],.val (.slice none 0 0),.val (.slice none 0 0)]),(6,22,[.row 4360]),(7,25,[vi 3,.str [],.val (.slice none 0 0),.val (.slice none 0 0)]),(8,4,[vb false]),(4360,9,[rc1 []])] (Wp.weak (K':=[(2,.own 2 0),(3,.own 3 0),(4,.own 4 0),(6,.own 6 0),(7,.own 7 0),(8,.own 8 0),(13,.fn 50 [.el (qc6 a0)])]) (L':=[(2,25,qc6 a0),(3,22,[ls a1]),(4,25,[vi 0,.str [],ls [],tn4 []]),(6,22,[.row 4360]),(7,25,[vi 3,.str [],ls [],tn4 []]),(8,4,[vb false]),(4360,9,[rc1 []])]) (.cons (.refl _) (.cons (.refl _) (.cons (.refl _) (.cons (.refl _) (.cons (.refl _) (.cons (.refl _) (.cons (.refl _) .nil))))))) (.cons (.cons (.refl _) (.cons (.refl _) (.cons (.refl _) (.cons (.refl _) .nil)))) (.cons (.cons (.refl _) .nil) (.cons (.cons (.refl _) (.cons (.refl _) (.cons (.zero _ _) (.cons (.bu _ _ _) .nil)))) (.cons (.cons (.refl _) .nil) (.cons (.cons (.refl _) (.cons (.refl _) (.cons (.zero _ _) (.cons (.bu _ _ _) .nil)))) (.cons (.cons (.refl _) .nil) (.cons (.cons (.refl _) .nil) .nil))))))) (Wp.xQ (σ:=(Ls)×af×Bool) (encs:=ko) (xs:=xs1) ⟨[(1000000,2),(1000001,3),(1000002,4),(1000003,6),(1000004,7),(1000005,8),(1000006,4360)],[(1000000,2),(1000001,3),(1000002,4),(1000003,6),(1000004,7),(1000005,8),(504180,4360)],[],[(1000000,25,qc6 a0),(1000001,22,[ls a1]),(1000002,25,[vi 0,.str [],ls [],tn4 []]),(1000003,22,[.row 1000006]),(1000004,25,[vi 3,.str [],ls [],tn4 []]),(1000005,4,[vb false]),(1000006,9,[rc1 []])],.hole,[(504180,9,[rc1 o2.1]),(1000000,25,qc6 a0),(1000001,22,[ls a1]),(1000002,25,[vi 0,.str [],ls [],tn4 []]),(1000003,22,[.row 504180]),(1000004,25,qc6 o2.2.1),(1000005,4,[vb o2.2.2])]⟩ (fun r (s:(Ls)×af×Bool)=>gI n a0 a1 zx3 r s.1 s.2.1 s.2.2=some o2) (fun(s:(Ls)×af×Bool)=>[(504180,9,[rc1 s.1]),(1000000,25,qc6 a0),(1000001,22,[ls a1]),(1000002,25,[vi (zx3.av),.str (zx3.aC),ls (zx3.ak),tn4 (zx3.aj)]),(1000003,22,[.row 504180]),(1000004,25,qc6 s.2.1),(1000005,4,[vb s.2.2])]) none [3,6,7,8] [2,4,6,7,8] [(3,.own 1000001 0),(6,.own 1000003 0),(7,.own 1000004 0),(8,.own 1000005 0)] [(2,.own 2 0),(4,.own 4 0),(6,.own 6 0),(7,.own 7 0),(8,.own 8 0)] [(4360,9,[rc1 o2.1]),(2,25,qc6 a0),(3,22,[ls a1]),(4,25,[vi 0,.str [],ls [],tn4 []]),(6,22,[.row 4360]),(7,25,qc6 o2.2.1),(8,4,[vb o2.2.2])] ([],(af.mk 3 [] [] []),false) (fun x (s:(Ls)×af×Bool)=>[(3,.own 1000001 0),(6,.own 1000003 0),(7,.own 1000004 0),(8,.own 1000005 0),(9,.str x.1),(10,.own 10 0)]) (fun x (s:(Ls)×af×Bool)=>[(10,25,qc6 x.2),(504180,9,[rc1 s.1]),(1000000,25,qc6 a0),(1000001,22,[ls a1]),(1000002,25,[vi (zx3.av),.str (zx3.aC),ls (zx3.ak),tn4 (zx3.aj)]),(1000003,22,[.row 504180]),(1000004,25,qc6 s.2.1),(1000005,4,[vb s.2.2])]) rfl (by kernel_rfl) (by kernel_rfl) (pG n a0 xs1 hxs1) (by kernel_rfl) (by kernel_rfl) (fun s=>by kernel_rfl) (by kernel_rfl) (by kernel_rfl) (by kernel_rfl) ho2 (fun F1 w1 a w h=>St.reL [504180,1000000,1000001,1000002,1000003,1000004,1000005] (by kernel_rfl) a w (St.restart (L':=[(1000000,25,qc6 a0),(1000001,22,[ls a1]),(1000002,25,[vi 0,.str [],ls [],tn4 []]),(1000003,22,[.row 504180]),(1000004,25,[vi 3,.str [],ls [],tn4 []]),(1000005,4,[vb false]),(504180,9,[rc1 []])]) 1000006 504180 (by decide) (by kernel_rfl) (by kernel_rfl) a w (h))) (fun x=>rfl) (by decide) (by decide) (fun x=>by kernel_rfl) (by kernel_rfl) (by kernel_rfl) (fun x s=>by kernel_rfl) (fun s h=>⟨rfl,by rw[gI] at h;cases h;rfl⟩) (by kernel_rfl) (by kernel_rfl) (fun x r s h F1 w1=>?_) (fun x r s h F1 w1=>B5 n a0 a1 zx3 x r s.1 s.2.1 s.2.2 _ h) (fun F1 w1 hA=>?_)))))
 ·refine Wp.seq (rg [3,6,7,8,9,15] [504180,1000000,1000001,1000002,1000003,1000004,1000005] [(3,.own 1000001 0),(6,.own 1000003 0),(7,.own 1000004 0),(8,.own 1000005 0),(9,.str x.1),(15,.agg (qc6 x.2))] [(504180,9,[rc1 s.1]),(1000000,25,qc6 a0),(1000001,22,[ls a1]),(1000002,25,[vi (zx3.av),.str (zx3.aC),ls (zx3.ak),tn4 (zx3.aj)]),(1000003,22,[.row 504180]),(1000004,25,qc6 s.2.1),(1000005,4,[vb s.2.2])] (To.ah (rg [3,6,7,8,9,10] [10,504180,1000000,1000001,1000002,1000003,1000004,1000005] [(3,.own 1000001 0),(6,.own 1000003 0),(7,.own 1000004 0),(8,.own 1000005 0),(9,.str x.1),(10,.own 10 0)] [(10,25,qc6 x.2),(504180,9,[rc1 s.1]),(1000000,25,qc6 a0),(1000001,22,[ls a1]),(1000002,25,[vi (zx3.av),.str (zx3.aC),ls (zx3.ak),tn4 (zx3.aj)]),(1000003,22,[.row 504180]),(1000004,25,qc6 s.2.1),(1000005,4,[vb s.2.2])] (kt [3,6,7,8,9,10] [10,504180,1000000,1000001,1000002,1000003,1000004,1000005] [(3,.own 1000001 0),(6,.own 1000003 0),(7,.own 1000004 0),(8,.own 1000005 0),(9,.str x.1),(10,.own 10 0)] [(10,25,qc6 x.2),(504180,9,[rc1 s.1]),(1000000,25,qc6 a0),(1000001,22,[ls a1]),(1000002,25,[vi (zx3.av),.str (zx3.aC),ls (zx3.ak),tn4 (zx3.aj)]),(1000003,22,[.row 504180]),(1000004,25,qc6 s.2.1),(1000005,4,[vb s.2.2])] ?_))))
  exact fun a w h=>⟨rfl,h⟩
 ·refine To.aR (To.ah (Wp.seq (Wp.seq (rg [2,4,6,7,29] [2,4,6,7,4360] [(2,.own 2 0),(4,.own 4 0),(6,.own 6 0),(7,.own 7 0),(29,vb o2.2.2)] [(2,25,qc6 a0),(4,25,[vi 0,.str [],ls [],tn4 []]),(6,22,[.row 4360]),(7,25,qc6 o2.2.1),(4360,9,[rc1 o2.1])] (To.ah ?_)))))
  obtain⟨o3,ho3,h⟩:=au h
  refine kw [2,4,6,7,29] [2,4,6,7,4360] [(2,.own 2 0),(4,.own 4 0),(6,.own 6 0),(7,.own 7 0),(29,vb o2.2.2)] [(2,25,qc6 a0),(4,25,[vi 0,.str [],ls [],tn4 []]),(6,22,[.row 4360]),(7,25,qc6 o2.2.1),(4360,9,[rc1 o2.1])] (BL n o2.2.2 a0 zx3 o2.1 o2.2.1 o3 ho3 (To.ah (Wp.seq ?_)))
  obtain⟨r4,hr4,h⟩:=au h
  refine Wp.pre (St.settle (ks:=[4360]) (kk:=[2,4,6]) (kl:=[2,4,6,4360]) (K':=[(2,.own 2 0),(4,.own 4 0),(6,.own 6 0)]) (L':=[(2,25,qc6 o3),(4,25,[vi 0,.str [],ls [],tn4 []]),(6,22,[.row 4360]),(4360,9,[rc2 o2.1])]) (by kernel_rfl)) (Wp.bI hm hΓ [(2,ls r4)] [4,5] [4] (K':=[(4,.own 4 0),(5,ls r4)]) (L':=[(4,25,qc6 o3)]) (ob:=[(true=true->CX Tryz.prog 36 [ls o2.1] (ls r4))]) (by kernel_rfl) (ai.cons (fun _=>cx (ud n o2.1 _ hr4)) ai.nil) (To.ah (Wp.ret (kt [4,5] [4] [(4,.own 4 0),(5,ls r4)] [(4,25,qc6 o3)] ?_))))
  cases h
  first|exact To.Gf hΓ hA (by kernel_rfl) (by kernel_rfl)|exact To.Ax hΓ (by kernel_rfl)
def ij(n:Nat)(v0:Ls)(v1:Ls):Nat->Int->Option (Sum (Unit) (Bool))
 |0,_=>none
 |k+1,v5=>if(decide (v5<(List.length v0:Int)))=true then(if(decide (0<=v5/\v5<(List.length v0:Int)))=true then(if(decide (0<=v5/\v5<(List.length v1:Int)))=true then(if(!(((v0)[Int.toNat v5]?.getD [])==((v1)[Int.toNat v5]?.getD [])))=true then(some (.inr false))
 else(ij n v0 v1 k (IntKind.wrap .i64 (v5+1)))) else none) else none)
 else(some (.inl ()))
theorem D2(n:Nat)(v0:Ls)(v1:Ls)(k:Nat):∀(v5:Int)(o:Sum (Unit) (Bool)),ij n v0 v1 k v5=some o->(Sum.elim (fun s=>To 26 F0 w0 [] [] (.exit 0) Q) (fun s=>To 26 F0 w0 [(4,vb s)] [] .ret Q)) o->WL Tryz.prog 26 F0 w0 [(0,ls v0),(1,ls v1),(5,vi v5)] [] (cI (cI (cB (cA (cB (cB (cF Tryz.f12))))))) Q:=by
 induction k with
 |zero=>intro v5 o h;cases h
 |succ k ih =>
  intro v5 o h hQ
  rw[ij] at h
  refine WL.round (Wp.seq (Wp.seq (rg [0,1,5,14] [] [(0,ls v0),(1,ls v1),(5,vi v5),(14,vb (ex4 v5 v0))] [] (To.ah (cn h (fun h=>?_) (fun h=>?_))))))
  ·refine Wp.skip (To.ah (Wp.seq (Wp.block (Wp.seq ?_))))
   obtain⟨hc1,h⟩:=ax h
   obtain⟨hc2,h⟩:=ax h
   refine Wp.bI hm hΓ [] [0,1,5,25] [] (K':=[(0,ls v0),(1,ls v1),(5,vi v5),(25,vb (!(((v0)[Int.toNat v5]?.getD [])==((v1)[Int.toNat v5]?.getD []))))]) (L':=[]) (ob:=[(zw v5 v0)=true,(zw v5 v1)=true]) (by kernel_rfl) (ai.cons hc1 (ai.cons hc2 ai.nil)) (To.ah (cn h (fun h=>?_) (fun h=>?_)))
   ·refine Wp.seq (rg [4] [] [(4,vb false)] [] (To.ah (Wp.ret (To.aP (To.aA (To.aA ?_))))))
    cases h
    exact hQ
   ·refine Wp.skip (To.aR (To.ah (rg [0,1,5] [] [(0,ls v0),(1,ls v1),(ex3 v5)] [] (kt [0,1,5] [] [(0,ls v0),(1,ls v1),(ex3 v5)] [] (To.again ?_)))))
    exact ih (IntKind.wrap .i64 (v5+1)) _ h hQ
  ·refine Wp.exit (To.aK (To.aK (kt [] [] [] [] ?_)))
   cases h
   exact hQ
def kG(n:Nat)(a0:Ls)(a1:Ls):Option (Bool) :=
 if((List.length a0:Int) != (List.length a1:Int))=true then some false
 else((ij n a0 a1 n 0).bind fun o1 =>
 (Sum.elim (fun o1=>some true) (fun o1=>some o1)) o1)
theorem vg(n:Nat)(a0:Ls)(a1:Ls)(r:Bool)(h:kG n a0 a1=some r):aJ Tryz.prog 12 [ls a0,ls a1] (vb r):=by
 unfold kG at h
 refine xo Tryz.f12 rfl fun F0 w0 _=>?_
 refine Wp.seq (rg [0,1] [] [(0,ls a0),(1,ls a1)] [] (To.ah (Wp.seq (Wp.seq (rg [0,1,10] [] [(0,ls a0),(1,ls a1),(10,vb ((List.length a0:Int) != (List.length a1:Int)))] [] (To.ah (cn h (fun h=>?_) (fun h=>?_))))))))
 ·refine Wp.seq (rg [4] [] [(4,vb false)] [] (To.ah (Wp.ret (To.aA ?_))))
  cases h
  exact To.done hΓ (by kernel_rfl)
 ·refine Wp.skip (To.ah (Wp.seq (Wp.seq (rg [0,1,5] [] [(0,ls a0),(1,ls a1),(5,vi 0)] [] (To.ah (Wp.block ?_))))))
  obtain⟨o1,ho1,h⟩:=au h
  refine kw [0,1,5] [] [(0,ls a0),(1,ls a1),(5,vi 0)] [] (Wp.bE (D2 n a0 a1 n 0 o1 ho1 ?_))
  rcases o1 with o1|o1
  ·replace h:=cv h
   refine To.aY (To.ah (Wp.seq (rg [4] [] [(4,vb true)] [] (To.ah (Wp.ret ?_)))))
   cases h
   exact To.done hΓ (by kernel_rfl)
  ·replace h:=cy h
   refine To.aP (To.aA ?_)
   cases h
   exact To.done hΓ (by kernel_rfl)
def iV(n:Nat)(b1000000:Bs)(b1000001:Ls):List (Bs×af)->Bool->Option (Sum (Bool) (Bool))
 |[],b1000002=>some (.inl b1000002)
 |x::r,b1000002=>if(x.1==b1000000)=true then((uj n x.2 b1000001).bind fun r1 =>
 some (.inr r1))
 else(iV n b1000000 b1000001 r b1000002)
theorem y8(n:Nat)(b1000000:Bs)(b1000001:Ls)(x:(Bs×af))(r:List (Bs×af))(b1000002:Bool)(o:Sum (Bool) (Bool))(h:iV n b1000000 b1000001 (x::r) b1000002=some o){F0:Fz}{w0:Pt Tryz.prog}{jump:Option Code}{Lx:aG}(hj:∀y,o=.inr y->jump=some .ret/\Lx=[(1000000,9,[.str b1000000]),(1000001,22,[ls b1000001]),(1000002,4,[vb y])]):Wp Tryz.prog 19 F0 w0 [(4,.own 1000000 0),(5,.own 1000001 0),(6,.own 1000002 0),(7,.str x.1),(8,.own 8 0)] [(8,25,qc6 x.2),(1000000,9,[.str b1000000]),(1000001,22,[ls b1000001]),(1000002,4,[vb b1000002])] (cRB (cI (cB (cA (cB (cF Tryz.f17)))))) (ny F0 w0 (fun(s:Bool)=>iV n b1000000 b1000001 r s=some o) (fun(s:Bool)=>[(1000000,9,[.str b1000000]),(1000001,22,[ls b1000001]),(1000002,4,[vb s])]) jump Lx):=by
 rw[iV] at h
 refine Wp.block (Wp.seq (rg [4,5,6,8,15] [8,1000000,1000001,1000002] [(4,.own 1000000 0),(5,.own 1000001 0),(6,.own 1000002 0),(8,.own 8 0),(15,vb (x.1==b1000000))] [(8,25,qc6 x.2),(1000000,9,[.str b1000000]),(1000001,22,[ls b1000001]),(1000002,4,[vb b1000002])] (To.ah (cn h (fun h=>?_) (fun h=>?_)))))
 ·refine Wp.seq ?_
  obtain⟨r1,hr1,h⟩:=au h
  refine rc [] 2 [6] [1000000,1000001,1000002] [(6,.own 1000002 0)] [(1000000,9,[.str b1000000]),(1000001,22,[ls b1000001]),(1000002,4,[vb r1])] (yU n x.2 b1000001 _ hr1) (To.ah (Wp.ret (To.aP ?_)))
  cases h
  exact To.Ri [1000000,1000001,1000002] (hj _ rfl).1 ((show jX _ _=some _ from by kernel_rfl).trans (congrArg some (hj _ rfl).2.symm))
 ·refine Wp.skip (To.aR (kt [4,5,6] [1000000,1000001,1000002] [(4,.own 1000000 0),(5,.own 1000001 0),(6,.own 1000002 0)] [(1000000,9,[.str b1000000]),(1000001,22,[ls b1000001]),(1000002,4,[vb b1000002])] ?_))
  exact To.round b1000002 [1000000,1000001,1000002] h (by kernel_rfl)
def vN(n:Nat)(a0:af)(a1:Bs)(a2:Ls):Option (Bool) :=
 (mg n a0).bind fun xs1 =>
 (iV n a1 a2 xs1 false).bind fun o2 =>
 Sum.elim (fun o2=>some false) (fun o2=>some o2) o2
theorem Fv(n:Nat)(a0:af)(a1:Bs)(a2:Ls)(r:Bool)(h:vN n a0 a1 a2=some r):aJ Tryz.prog 17 [.agg (qc6 a0),.str a1,ls a2] (vb r):=by
 unfold vN at h
 refine vq (fn:=Tryz.f17) (by kernel_rfl) rfl (by kernel_rfl) (Nat.le_of_ble_eq_true (by kernel_rfl)) fun F0 w0 _=>?_
 refine kw [0,1,2] [] [(0,.agg (qc6 a0)),(1,.str a1),(2,ls a2)] [] (Wp.seq (rg [3,4,5,6] [3,4,5,6] [(3,.own 3 0),(4,.own 4 0),(5,.own 5 0),(6,.own 6 0)] [(3,25,qc6 a0),(4,9,[.str a1]),(5,22,[ls a2]),(6,4,[vb false])] (To.ah (Wp.seq (Wp.seq (rr [] [(1,.fn 50 [.el (qc6 a0)])] [] [4,5,6,10] [4,5,6] [(4,.own 4 0),(5,.own 5 0),(6,.own 6 0),(10,.fn 50 [.el (qc6 a0)])] [(4,9,[.str a1]),(5,22,[ls a2]),(6,4,[vb false])] [(true=true->CX Tryz.prog 32 [.agg (qc6 a0)] (.fn 50 [.el (qc6 a0)]))] (ai.cons (fun _=>cx (uU a0)) ai.nil) (To.ah (Wp.block ?_))))))))
 obtain⟨xs1,hxs1,h⟩:=au h
 obtain⟨o2,ho2,h⟩:=au h
 refine kw [4,5,6,10] [4,5,6] [(4,.own 4 0),(5,.own 5 0),(6,.own 6 0),(10,.fn 50 [.el (qc6 a0)])] [(4,9,[.str a1]),(5,22,[ls a2]),(6,4,[vb false])] ?_
 rcases o2 with o2|o2
 ·replace h:=cv h
  refine Wp.xQ (σ:=Bool) (encs:=ko) (xs:=xs1) ⟨[(1000000,4),(1000001,5),(1000002,6)],[(1000000,4),(1000001,5),(1000002,6)],[],[(1000000,9,[.str a1]),(1000001,22,[ls a2]),(1000002,4,[vb false])],.hole,[(1000000,9,[.str a1]),(1000001,22,[ls a2]),(1000002,4,[vb o2])]⟩ (fun r (s:Bool)=>iV n a1 a2 r s=some (.inl o2)) (fun(s:Bool)=>[(1000000,9,[.str a1]),(1000001,22,[ls a2]),(1000002,4,[vb s])]) none [4,5,6] [6] [(4,.own 1000000 0),(5,.own 1000001 0),(6,.own 1000002 0)] [(6,.own 6 0)] [(4,9,[.str a1]),(5,22,[ls a2]),(6,4,[vb o2])] false (fun x (s:Bool)=>[(4,.own 1000000 0),(5,.own 1000001 0),(6,.own 1000002 0),(7,.str x.1),(8,.own 8 0)]) (fun x (s:Bool)=>[(8,25,qc6 x.2),(1000000,9,[.str a1]),(1000001,22,[ls a2]),(1000002,4,[vb s])]) rfl (by kernel_rfl) (by kernel_rfl) (pG n a0 xs1 hxs1) (by kernel_rfl) (by kernel_rfl) (fun s=>by kernel_rfl) (by kernel_rfl) (by kernel_rfl) (by kernel_rfl) ho2 (fun F1 w1 a w h=>h) (fun x=>rfl) (by decide) (by decide) (fun x=>by kernel_rfl) (by kernel_rfl) (by kernel_rfl) (fun x s=>by kernel_rfl) (fun s h=>⟨rfl,by rw[iV] at h;cases h;rfl⟩) (by kernel_rfl) (by kernel_rfl) (fun x r s h F1 w1=>?_) (fun x r s h F1 w1=>y8 n a1 a2 x r s _ h (fun y hy=>by cases hy)) (fun F1 w1 hA=>?_)
  ·refine Wp.seq (rg [4,5,6,7,12] [1000000,1000001,1000002] [(4,.own 1000000 0),(5,.own 1000001 0),(6,.own 1000002 0),(7,.str x.1),(12,.agg (qc6 x.2))] [(1000000,9,[.str a1]),(1000001,22,[ls a2]),(1000002,4,[vb s])] (To.ah (rg [4,5,6,7,8] [8,1000000,1000001,1000002] [(4,.own 1000000 0),(5,.own 1000001 0),(6,.own 1000002 0),(7,.str x.1),(8,.own 8 0)] [(8,25,qc6 x.2),(1000000,9,[.str a1]),(1000001,22,[ls a2]),(1000002,4,[vb s])] (kt [4,5,6,7,8] [8,1000000,1000001,1000002] [(4,.own 1000000 0),(5,.own 1000001 0),(6,.own 1000002 0),(7,.str x.1),(8,.own 8 0)] [(8,25,qc6 x.2),(1000000,9,[.str a1]),(1000001,22,[ls a2]),(1000002,4,[vb s])] ?_))))
   exact fun a w h=>⟨rfl,h⟩
  ·refine To.aR (To.ah (Wp.seq (rg [6] [6] [(6,.own 6 0)] [(6,4,[vb false])] (To.ah (Wp.ret ?_)))))
   cases h
   first|exact To.Gf hΓ hA (by kernel_rfl) (by kernel_rfl)|exact To.Ax hΓ (by kernel_rfl)
 ·replace h:=cy h
  refine Wp.xQ (σ:=Bool) (encs:=ko) (xs:=xs1) ⟨[(1000000,4),(1000001,5),(1000002,6)],[(1000000,4),(1000001,5),(1000002,6)],[],[(1000000,9,[.str a1]),(1000001,22,[ls a2]),(1000002,4,[vb false])],.hole,[(1000000,9,[.str a1]),(1000001,22,[ls a2]),(1000002,4,[vb o2])]⟩ (fun r (s:Bool)=>iV n a1 a2 r s=some (.inr o2)) (fun(s:Bool)=>[(1000000,9,[.str a1]),(1000001,22,[ls a2]),(1000002,4,[vb s])]) (some .ret) [4,5,6] [6] [(4,.own 1000000 0),(5,.own 1000001 0),(6,.own 1000002 0)] [(6,.own 6 0)] [(4,9,[.str a1]),(5,22,[ls a2]),(6,4,[vb o2])] false (fun x (s:Bool)=>[(4,.own 1000000 0),(5,.own 1000001 0),(6,.own 1000002 0),(7,.str x.1),(8,.own 8 0)]) (fun x (s:Bool)=>[(8,25,qc6 x.2),(1000000,9,[.str a1]),(1000001,22,[ls a2]),(1000002,4,[vb s])]) rfl (by kernel_rfl) (by kernel_rfl) (pG n a0 xs1 hxs1) (by kernel_rfl) (by kernel_rfl) (fun s=>by kernel_rfl) (by kernel_rfl) (by kernel_rfl) (by kernel_rfl) ho2 (fun F1 w1 a w h=>h) (fun x=>rfl) (by decide) (by decide) (fun x=>by kernel_rfl) (by kernel_rfl) (by kernel_rfl) (fun x s=>by kernel_rfl) (fun s h=>by rw[iV] at h;cases h) (by kernel_rfl) (by kernel_rfl) (fun x r s h F1 w1=>?_) (fun x r s h F1 w1=>y8 n a1 a2 x r s _ h (fun y hy=>by cases hy;exact⟨rfl,rfl⟩)) (fun F1 w1 hA=>?_)
  ·refine Wp.seq (rg [4,5,6,7,12] [1000000,1000001,1000002] [(4,.own 1000000 0),(5,.own 1000001 0),(6,.own 1000002 0),(7,.str x.1),(12,.agg (qc6 x.2))] [(1000000,9,[.str a1]),(1000001,22,[ls a2]),(1000002,4,[vb s])] (To.ah (rg [4,5,6,7,8] [8,1000000,1000001,1000002] [(4,.own 1000000 0),(5,.own 1000001 0),(6,.own 1000002 0),(7,.str x.1),(8,.own 8 0)] [(8,25,qc6 x.2),(1000000,9,[.str a1]),(1000001,22,[ls a2]),(1000002,4,[vb s])] (kt [4,5,6,7,8] [8,1000000,1000001,1000002] [(4,.own 1000000 0),(5,.own 1000001 0),(6,.own 1000002 0),(7,.str x.1),(8,.own 8 0)] [(8,25,qc6 x.2),(1000000,9,[.str a1]),(1000001,22,[ls a2]),(1000002,4,[vb s])] ?_))))
   exact fun a w h=>⟨rfl,h⟩
  ·refine Wp.ret (To.aP (To.aA (kt [6] [6] [(6,.own 6 0)] [(6,4,[vb o2])] ?_)))
   cases h
   first|exact To.Gf hΓ hA (by kernel_rfl) (by kernel_rfl)|exact To.Ax hΓ (by kernel_rfl)
def jo(n:Nat):List (Bs×af)->(Ls)->Option ((Ls))
 |[],b1000000=>some b1000000
 |x::r,b1000000=>(kz n x.2).bind fun r1 =>
 if(decide ((List.length b1000000+List.length r1)*(16+1)<=limit))=true then(jo n r (b1000000++r1)) else none
theorem Il(n:Nat)(x:(Bs×af))(r:List (Bs×af))(b1000000:Ls)(o:(Ls))(h:jo n (x::r) b1000000=some o){F0:Fz}{w0:Pt Tryz.prog}{Lx:aG}:Wp Tryz.prog 16 F0 w0 [(3,.own 1000000 0),(5,.own 5 0)] [(5,25,qc6 x.2),(504000,9,[rc1 b1000000]),(1000000,22,[.row 504000])] (cRB (cI (cB (cA (cB (cB (cF Tryz.f13))))))) (ny F0 w0 (fun(s:(Ls))=>jo n r s=some o) (fun(s:(Ls))=>[(504000,9,[rc1 s]),(1000000,22,[.row 504000])]) none Lx):=by
 rw[jo] at h
 refine Wp.block ?_
 obtain⟨r1,hr1,h⟩:=au h
 obtain⟨hc2,h⟩:=ax h
 refine Wp.bI hm hΓ [(2,ls r1),(3,.row 13),(1003,ls (b1000000++r1))] [3] [13,1000000] (K':=[(3,.own 1000000 0)]) (L':=[(13,9,[rc1 (b1000000++r1)]),(1000000,22,[.row 13])]) (ob:=[(true=true->CX Tryz.prog 41 [.agg (qc6 x.2)] (ls r1)),(decide ((List.length b1000000+List.length r1)*(16+1)<=limit))=true,(gY [] aW b1000000 (List.flatMap aW r1) (List.length r1) (ls (b1000000++r1))/\aM (ls (b1000000++r1)))]) (by kernel_rfl) (ai.cons (fun _=>cx (rC n x.2 _ hr1)) (ai.cons hc2 (ai.cons (iI rfl rfl (aI _)) ai.nil))) (To.aR (nt [3] [13,1000000] [(13,504000)] [3] [504000,1000000] [(3,.own 1000000 0)] [(504000,9,[rc1 (b1000000++r1)]),(1000000,22,[.row 504000])] ?_))
 exact To.round (b1000000++r1) [504000,1000000] h (by kernel_rfl)
def rE(n:Nat)(a0:af):Option ((Ls)) :=
 (mg n a0).bind fun xs1 =>
 (jo n xs1 []).bind fun o2 =>
 (kL n o2).bind fun r3 =>
 some r3
theorem Dj(n:Nat)(a0:af)(r:(Ls))(h:rE n a0=some r):aJ Tryz.prog 13 [.agg (qc6 a0)] (ls r):=by
 unfold rE at h
 refine vq (fn:=Tryz.f13) (by kernel_rfl) rfl (by kernel_rfl) (Nat.le_of_ble_eq_true (by kernel_rfl)) fun F0 w0 _=>?_
 refine kw [0] [] [(0,.agg (qc6 a0))] [] (Wp.seq (rg [1] [1] [(1,.own 1 0)] [(1,25,qc6 a0)] (To.ah (Wp.seq (rg [1,3] [1,3] [(1,.own 1 0),(3,.own 3 0)] [(1,25,qc6 a0),(3,22,[.val (.slice none 0 0)])] (To.ah (Wp.seq (Wp.seq (rr [] [(1,.fn 50 [.el (qc6 a0)])] [] [3,7] [3] [(3,.own 3 0),(7,.fn 50 [.el (qc6 a0)])] [(3,22,[.val (.slice none 0 0)])] [(true=true->CX Tryz.prog 32 [.agg (qc6 a0)] (.fn 50 [.el (qc6 a0)]))] (ai.cons (fun _=>cx (uU a0)) ai.nil) (To.ah (Wp.block ?_)))))))))))
 obtain⟨xs1,hxs1,h⟩:=au h
 obtain⟨o2,ho2,h⟩:=au h
 refine kw [3,7] [3] [(3,.own 3 0),(7,.fn 50 [.el (qc6 a0)])] [(3,22,[.val (.slice none 0 0)])] (Wp.pre (St.rK 3 0 4180 9 (aI _) (by decide) (by kernel_rfl) (L':=[(3,22,[.row 4180])]) (by kernel_rfl)) (kw [3,7] [3,4180] [(3,.own 3 0),(7,.fn 50 [.el (qc6 a0)])] [(3,22,[.row 4180]),(4180,9,[rc1 []])] (Wp.xQ (σ:=(Ls)) (encs:=ko) (xs:=xs1) ⟨[(1000000,3),(1000001,4180)],[(1000000,3),(504000,4180)],[],[(1000000,22,[.row 1000001]),(1000001,9,[rc1 []])],.hole,[(504000,9,[rc1 o2]),(1000000,22,[.row 504000])]⟩ (fun r (s:(Ls))=>jo n r s=some o2) (fun(s:(Ls))=>[(504000,9,[rc1 s]),(1000000,22,[.row 504000])]) none [3] [3] [(3,.own 1000000 0)] [(3,.own 3 0)] [(4180,9,[rc1 o2]),(3,22,[.row 4180])] [] (fun x (s:(Ls))=>[(3,.own 1000000 0),(5,.own 5 0)]) (fun x (s:(Ls))=>[(5,25,qc6 x.2),(504000,9,[rc1 s]),(1000000,22,[.row 504000])]) rfl (by kernel_rfl) (by kernel_rfl) (pG n a0 xs1 hxs1) (by kernel_rfl) (by kernel_rfl) (fun s=>by kernel_rfl) (by kernel_rfl) (by kernel_rfl) (by kernel_rfl) ho2 (fun F1 w1 a w h=>St.reL [504000,1000000] (by kernel_rfl) a w (St.restart (L':=[(1000000,22,[.row 504000]),(504000,9,[rc1 []])]) 1000001 504000 (by decide) (by kernel_rfl) (by kernel_rfl) a w (h))) (fun x=>rfl) (by decide) (by decide) (fun x=>by kernel_rfl) (by kernel_rfl) (by kernel_rfl) (fun x s=>by kernel_rfl) (fun s h=>⟨rfl,by rw[jo] at h;cases h;rfl⟩) (by kernel_rfl) (by kernel_rfl) (fun x r s h F1 w1=>?_) (fun x r s h F1 w1=>Il n x r s _ h) (fun F1 w1 hA=>?_))))
 ·refine rg [3,5] [5,504000,1000000] [(3,.own 1000000 0),(5,.own 5 0)] [(5,25,qc6 x.2),(504000,9,[rc1 s]),(1000000,22,[.row 504000])] (kt [3,5] [5,504000,1000000] [(3,.own 1000000 0),(5,.own 5 0)] [(5,25,qc6 x.2),(504000,9,[rc1 s]),(1000000,22,[.row 504000])] ?_)
  exact fun a w h=>⟨rfl,h⟩
 ·refine To.aR (To.ah (Wp.seq ?_))
  obtain⟨r3,hr3,h⟩:=au h
  refine rc [(1,[4180])] 1 [2] [] [(2,ls r3)] [] (ud n o2 _ hr3) (To.ah (Wp.ret ?_))
  cases h
  first|exact To.Gf hΓ hA (by kernel_rfl) (by kernel_rfl)|exact To.Ax hΓ (by kernel_rfl)
def kM(n:Nat):Option (Bool) :=
 aQ (fZ mq (af.mk 0 [] [] [])) fun r1 =>
 aQ (fZ sG r1) fun r2 =>
 aQ (fZ [98] r2) fun r3 =>
 aQ (fZ jV r3) fun r4 =>
 (kK n r4 []).bind fun r5 =>
 (kG n r5.2 ([[98]])).bind fun r6 =>
 ((if(r6==true)=true then vN n r4 [98] ([mq]) else some false)).bind fun r7 =>
 ((if((bif r6 then r7 else false)==true)=true then rE n r4 else some [])).bind fun r8 =>
 ((if((bif r6 then r7 else false)==true)=true then kG n r8 ([mq]) else some false)).bind fun r9 =>
 some (bif (bif r6 then r7 else false) then r9 else false)
theorem uq(n:Nat)(r:Bool)(h:kM n=some r):aJ Tryz.prog 7 [] (vb r):=by
 unfold kM at h
 refine xo Tryz.f7 rfl fun F0 w0 _=>?_
 refine Wp.seq (rg [] [] [] [] (To.ah (Wp.seq ?_)))
 obtain⟨r1,hr1,h⟩:=aS h
 obtain⟨r2,hr2,h⟩:=aS h
 obtain⟨r3,hr3,h⟩:=aS h
 obtain⟨r4,hr4,h⟩:=aS h
 refine rr [] [(1,.agg (qc6 r1)),(2,.agg (qc6 r2)),(3,.agg (qc6 r3)),(4,.agg (qc6 r4))] [] [1] [1] [(1,.own 1 0)] [(1,25,qc6 r4)] [(true=true->CX Tryz.prog 25 [.str mq,.agg [vi 0,.str [],.val (.slice none 0 0),.val (.slice none 0 0)]] (.agg (qc6 r1))),_,_,_] (ai.cons (fun _=>cx (qI (.cons (.refl _) (.cons (.agg (.cons (.refl _) (.cons (.refl _) (.cons (.zero _ _) (.cons (.bu _ _ _) .nil))))) .nil)) (tN mq zx3 _ hr1))) (ai.cons (c1 (tN sG r1 _ hr2)) (ai.cons (c1 (tN [98] r2 _ hr3)) (ai.cons (c1 (tN jV r3 _ hr4)) ai.nil)))) (To.ah (Wp.seq ?_))
 obtain⟨r5,hr5,h⟩:=au h
 refine rr [] [(1,.tup [.agg (qc6 r5.1),ls r5.2])] [] [1,3] [1] [(1,.own 1 0),(3,ls r5.2)] [(1,25,qc6 r4)] [(true=true->CX Tryz.prog 9 [.agg (qc6 r4),.val (.slice none 0 0)] (.tup [.agg (qc6 r5.1),ls r5.2]))] (ai.cons (fun _=>cx (qI (.cons (.refl _) (.cons (.zero _ _) .nil)) (qk n r4 [] _ hr5))) ai.nil) (To.ah (Wp.seq ?_))
 obtain⟨r6,hr6,h⟩:=au h
 obtain⟨r7,hr7,h⟩:=au h
 obtain⟨r8,hr8,h⟩:=au h
 obtain⟨r9,hr9,h⟩:=au h
 refine rr [(2,[15])] [(1,ls ([[98]])),(2,vb r6),(5,ls ([mq])),(6,vb r7),(10,ls r8),(11,ls ([mq])),(12,vb r9)] [] [0] [] [(0,vb (bif (bif r6 then r7 else false) then r9 else false))] [] [(ck 1 [.str [98]] 1 (ls ([[98]]))/\aM (ls ([[98]]))),_,((r6==true)=true->ck 1 [.str mq] 1 (ls ([mq]))/\aM (ls ([mq]))),((r6==true)=true->CX Tryz.prog 17 [.agg (qc6 r4),.str [98],ls ([mq])] (vb r7)),(((bif r6 then r7 else false)==true)=true->CX Tryz.prog 13 [.agg (qc6 r4)] (ls r8)),(((bif r6 then r7 else false)==true)=true->ck 1 [.str mq] 1 (ls ([mq]))/\aM (ls ([mq]))),(((bif r6 then r7 else false)==true)=true->CX Tryz.prog 12 [ls r8,ls ([mq])] (vb r9))] (ai.cons (du (by kernel_rfl) rfl (by kernel_rfl) (aI _)) (ai.cons (c1 (vg n r5.2 ([[98]]) _ hr6)) (ai.cons (fun _=>du (by kernel_rfl) rfl (by kernel_rfl) (aI _)) (ai.cons (fun hg=>cx (Fv n r4 [98] ([mq]) _ (jB hg hr7))) (ai.cons (fun hg=>cx (Dj n r4 _ (jB hg hr8))) (ai.cons (fun _=>du (by kernel_rfl) rfl (by kernel_rfl) (aI _)) (ai.cons (fun hg=>cx (vg n r8 ([mq]) _ (jB hg hr9))) ai.nil))))))) (To.ah (Wp.ret ?_))
 cases h
 exact To.done hΓ (by kernel_rfl)
structure aB where
 f_N:af
 lH:Bs
 f_E:Int
def ay:aB->List D:=fun x=>[.val (.int .i64 x.f_N.av),.str x.f_N.aC,.recs (α:=Bs) [] aW x.f_N.ak,.tree (α:=af) (af.mk 0 [] [] []) fF eQ x.f_N.aj,.str x.lH,.val (.int .i64 x.f_E)]
def lQ(n:Nat)(a0:Bs):Option (Bool) :=
 if((!((decide ((List.length a0:Int)>=2))==true)||decide (0<=(2:Int)/\(2:Int)<=(List.length a0:Int))))=true then(some (bif (decide ((List.length a0:Int)>=2)) then((List.take (Int.toNat 2) a0)==[120,45]) else false)) else none
theorem wA(n:Nat)(a0:Bs)(r:Bool)(h:lQ n a0=some r):aJ Tryz.prog 26 [.str a0] (vb r):=by
 unfold lQ at h
 refine xo Tryz.f26 rfl fun F0 w0 _=>?_
 refine Wp.seq (rg [0] [] [(0,.str a0)] [] (To.ah (Wp.seq ?_)))
 obtain⟨hc1,h⟩:=ax h
 refine r0 [2] [] [(2,vb (bif (decide ((List.length a0:Int)>=2)) then((List.take (Int.toNat 2) a0)==[120,45]) else false))] [] (ai.cons hc1 ai.nil) (To.ah (Wp.ret ?_))
 cases h
 exact To.done hΓ (by kernel_rfl)
def bH(a0:Int):Int :=
 if(bif (decide (a0>=97)) then(decide (a0<=122)) else false)=true then 1
 else(if(bif (decide (a0>=65)) then(decide (a0<=90)) else false)=true then 2
 else(if(bif (decide (a0>=48)) then(decide (a0<=57)) else false)=true then 3
 else(if(a0==95)=true then 4
 else(if(a0==45)=true then 5
 else(if(a0==46)=true then 6
 else 0)))))
theorem qX(a0:Int)(r:Int)(h:bH a0=r):aJ Tryz.prog 47 [.val (.int .u8 a0)] (vi r):=by
 unfold bH at h
 refine xo Tryz.f47 rfl fun F0 w0 _=>?_
 refine Wp.seq (rg [0] [] [(0,.val (.int .u8 a0))] [] (To.ah (Wp.seq (Wp.seq (rg [0,8] [] [(0,.val (.int .u8 a0)),(8,vb (bif (decide (a0>=97)) then(decide (a0<=122)) else false))] [] (To.ah (cn h (fun h=>?_) (fun h=>?_))))))))
 ·refine Wp.seq (rg [2] [] [(2,vi 1)] [] (To.ah (Wp.ret (To.aA ?_))))
  cases h
  exact To.done hΓ (by kernel_rfl)
 ·refine Wp.skip (To.ah (Wp.seq (Wp.seq (rg [0,14] [] [(0,.val (.int .u8 a0)),(14,vb (bif (decide (a0>=65)) then(decide (a0<=90)) else false))] [] (To.ah (cn h (fun h=>?_) (fun h=>?_)))))))
  ·refine Wp.seq (rg [2] [] [(2,vi 2)] [] (To.ah (Wp.ret (To.aA ?_))))
   cases h
   exact To.done hΓ (by kernel_rfl)
  ·refine Wp.skip (To.ah (Wp.seq (Wp.seq (rg [0,20] [] [(0,.val (.int .u8 a0)),(20,vb (bif (decide (a0>=48)) then(decide (a0<=57)) else false))] [] (To.ah (cn h (fun h=>?_) (fun h=>?_)))))))
   ·refine Wp.seq (rg [2] [] [(2,vi 3)] [] (To.ah (Wp.ret (To.aA ?_))))
    cases h
    exact To.done hΓ (by kernel_rfl)
   ·refine Wp.skip (To.ah (Wp.seq (Wp.seq (rg [0,22] [] [(0,.val (.int .u8 a0)),(22,vb (a0==95))] [] (To.ah (cn h (fun h=>?_) (fun h=>?_)))))))
    ·refine Wp.seq (rg [2] [] [(2,vi 4)] [] (To.ah (Wp.ret (To.aA ?_))))
     cases h
     exact To.done hΓ (by kernel_rfl)
    ·refine Wp.skip (To.ah (Wp.seq (Wp.seq (rg [0,24] [] [(0,.val (.int .u8 a0)),(24,vb (a0==45))] [] (To.ah (cn h (fun h=>?_) (fun h=>?_)))))))
     ·refine Wp.seq (rg [2] [] [(2,vi 5)] [] (To.ah (Wp.ret (To.aA ?_))))
      cases h
      exact To.done hΓ (by kernel_rfl)
     ·refine Wp.skip (To.ah (Wp.seq (Wp.seq (rg [26] [] [(26,vb (a0==46))] [] (To.ah (cn h (fun h=>?_) (fun h=>?_)))))))
      ·refine Wp.seq (rg [2] [] [(2,vi 6)] [] (To.ah (Wp.ret (To.aA ?_))))
       cases h
       exact To.done hΓ (by kernel_rfl)
      ·refine Wp.skip (To.ah (Wp.seq (rg [2] [] [(2,vi 0)] [] (To.ah (Wp.ret ?_)))))
       cases h
       exact To.done hΓ (by kernel_rfl)
def ie(n:Nat)(v0:Bs):Nat->Int->Option (Sum (Unit) (Bool))
 |0,_=>none
 |k+1,v3=>if(decide (v3<(List.length v0:Int)))=true then(if(decide (0<=v3/\v3<(List.length v0:Int)))=true then(aQ ((bif ((bH (((v0)[Int.toNat v3]?.getD 0).toNat:Int))==0) then true else(bif (v3==0) then(decide ((bH (((v0)[Int.toNat v3]?.getD 0).toNat:Int))>3)) else false)):Bool) fun x1 =>
 if x1=true then(some (.inr false))
 else(ie n v0 k (IntKind.wrap .i64 (v3+1)))) else none)
 else(some (.inl ()))
abbrev bK(x0:Bs)(x1:Int):=(((x0)[Int.toNat x1]?.getD 0).toNat:Int)
abbrev mj(x0:Int)(x1:Bs):=(decide (x0<(List.length x1:Int)))
abbrev UZ(x0:Int)(x1:Bs):=(0<=x0/\x0<(List.length x1:Int))
theorem zp(n:Nat)(v0:Bs)(k:Nat):∀(v3:Int)(o:Sum (Unit) (Bool)),ie n v0 k v3=some o->(Sum.elim (fun s=>To 33 F0 w0 [] [] (.exit 0) Q) (fun s=>To 33 F0 w0 [(2,vb s)] [] .ret Q)) o->WL Tryz.prog 33 F0 w0 [(0,.str v0),(3,vi v3)] [] (cI (cI (cB (cA (cB (cB (cF Tryz.f45))))))) Q:=by
 induction k with
 |zero=>intro v3 o h;cases h
 |succ k ih =>
  intro v3 o h hQ
  rw[ie] at h
  refine WL.round (Wp.seq (Wp.seq (rg [0,3,16] [] [(0,.str v0),(3,vi v3),(16,vb (mj v3 v0))] [] (To.ah (cn h (fun h=>?_) (fun h=>?_))))))
  ·refine Wp.skip (To.ah (Wp.seq (Wp.block (Wp.seq ?_))))
   obtain⟨hc2,h⟩:=ax h
   refine rr [] [(3,vi (bH (bK v0 v3)))] [] [0,3,4] [] [(0,.str v0),(3,vi v3),(4,vi (bH (bK v0 v3)))] [] [_,_] (ai.cons hc2 (ai.cons (c1 (qX (bK v0 v3) _ rfl)) ai.nil)) (To.ah (Wp.seq ?_))
   obtain⟨x1,hx1,h⟩:=aS h
   refine rg [0,3,32] [] [(0,.str v0),(3,vi v3),(32,vb (bif ((bH (bK v0 v3))==0) then true else(bif (v3==0) then(decide ((bH (bK v0 v3))>3)) else false)))] [] (To.eq (K':=[(0,.str v0),(3,vi v3),(32,vb x1)]) (L':=[]) (by cases hx1;rfl) (by cases hx1;rfl) (To.ah (cn h (fun h=>?_) (fun h=>?_))))
   ·refine Wp.seq (rg [2] [] [(2,vb false)] [] (To.ah (Wp.ret (To.aP (To.aA (To.aA ?_))))))
    cases h
    exact hQ
   ·refine Wp.skip (To.aR (To.ah (rg [0,3] [] [(0,.str v0),(uz v3)] [] (kt [0,3] [] [(0,.str v0),(uz v3)] [] (To.again ?_)))))
    exact ih (IntKind.wrap .i64 (v3+1)) _ h hQ
  ·refine Wp.exit (To.aK (To.aK (kt [] [] [] [] ?_)))
   cases h
   exact hQ
def il(n:Nat)(a0:Bs):Option (Bool) :=
 if(bif (decide ((List.length a0:Int)<1)) then true else(decide ((List.length a0:Int)>24)))=true then some false
 else((ie n a0 n 0).bind fun o1 =>
 (Sum.elim (fun o1=>some true) (fun o1=>some o1)) o1)
abbrev Rx(x0:Bs):=(bif (decide ((List.length x0:Int)<1)) then true else(decide ((List.length x0:Int)>24)))
theorem jW(n:Nat)(a0:Bs)(r:Bool)(h:il n a0=some r):aJ Tryz.prog 45 [.str a0] (vb r):=by
 unfold il at h
 refine xo Tryz.f45 rfl fun F0 w0 _=>?_
 refine Wp.seq (rg [0] [] [(0,.str a0)] [] (To.ah (Wp.seq (Wp.seq (rg [0,12] [] [(0,.str a0),(12,vb (Rx a0))] [] (To.ah (cn h (fun h=>?_) (fun h=>?_))))))))
 ·refine Wp.seq (rg [2] [] [(2,vb false)] [] (To.ah (Wp.ret (To.aA ?_))))
  cases h
  exact To.done hΓ (by kernel_rfl)
 ·refine Wp.skip (To.ah (Wp.seq (Wp.seq (rg [0,3] [] [(0,.str a0),(3,vi 0)] [] (To.ah (Wp.block ?_))))))
  obtain⟨o1,ho1,h⟩:=au h
  refine kw [0,3] [] [(0,.str a0),(3,vi 0)] [] (Wp.bE (zp n a0 n 0 o1 ho1 ?_))
  rcases o1 with o1|o1
  ·replace h:=cv h
   refine To.aY (To.ah (Wp.seq (rg [2] [] [(2,vb true)] [] (To.ah (Wp.ret ?_)))))
   cases h
   exact To.done hΓ (by kernel_rfl)
  ·replace h:=cy h
   refine To.aP (To.aA ?_)
   cases h
   exact To.done hΓ (by kernel_rfl)
def iH(n:Nat)(v0:Bs)(v3:Ls):Nat->Int->Option (Sum (Unit) (Int))
 |0,_=>none
 |k+1,v4=>if(decide (v4<(List.length v3:Int)))=true then(if(decide (0<=v4/\v4<(List.length v3:Int)))=true then(if(((v3)[Int.toNat v4]?.getD [])==v0)=true then(some (.inr v4))
 else(iH n v0 v3 k (IntKind.wrap .i64 (v4+1)))) else none)
 else(some (.inl ()))
end Go.Proofs.YtpmmhhmhckpnfaaGreat.M
