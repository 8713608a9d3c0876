import Derived.Test.YtpmmhhmhckpnfaaGreatQM23e
set_option linter.all false
namespace Go.Proofs.YtpmmhhmhckpnfaaGreat.M
open Go.RowKit Go.Proofs.YtpmmhhmhckpnfaaGreat.RX
set_option maxRecDepth 100000
theorem qb(n:Nat)(a0:af)(a1:Bs)(a2:Bs)(r:Bs×Bool)(h:kQ n a0 a1 a2=some r):aJ Tryz.prog 102 [.agg (qc6 a0),.str a1,.str a2] (.tup [.str r.1,vb r.2]):=by
 unfold kQ at h
 refine xo Tryz.f102 rfl fun F0 w0 _=>?_
 refine Wp.seq (rg [1,2,3] [3] [(1,.str a1),(2,.str a2),(3,.own 3 0)] [(3,25,qc6 a0)] (To.ah (Wp.seq ?_)))
 obtain⟨r1,hr1,h⟩:=au h
 refine rc [] 3 [8,9] [] [(8,.str r1.1),(9,vb r1.2)] [] (fH n a0 a1 a2 _ hr1) (To.ah (Wp.seq (rg [6,7] [] [(6,.str r1.1),(7,vb (bif r1.2 then(bif (r1.1==nJ) then true else(r1.1==xm)) else false))] [] (To.ah (Wp.ret ?_)))))
 cases h
 exact To.done hΓ (by kernel_rfl)
def mY(n:Nat)(a0:af):Option (aL×Bool) :=
 if(a0.av==1)=true then((qJ n a0.aC).bind fun r1 =>
 some (r1.1,(r1.2==0)))
 else((jI n a0 ([wW,oD,wU,wS])).bind fun r2 =>
 if(!r2)=true then(some ((aL.mk [] [] false),false))
 else((eX n a0 wW []).bind fun r3 =>
 (eX n a0 oD []).bind fun r4 =>
 (kQ n a0 wU xm).bind fun r5 =>
 (eX n a0 wS [98,105,110,100]).bind fun r6 =>
 ((if((bif (bif (bif r3.2 then r4.2 else false) then r5.2 else false) then r6.2 else false)==true)=true then mD n (aL.mk r3.1 r4.1 (r5.1==nJ)) else some false)).bind fun r7 =>
 aQ ((bif (bif (bif (bif (bif r3.2 then r4.2 else false) then r5.2 else false) then r6.2 else false) then r7 else false) then(bif (bif (r6.1==[118,111,108,117,109,101]) then true else(r6.1==[98,105,110,100])) then true else(r6.1==[116,109,112,102,115])) else false):Bool) fun x8 =>
 some ((aL.mk r3.1 r4.1 (r5.1==nJ)),x8)))
theorem CM(n:Nat)(a0:af)(r:aL×Bool)(h:mY n a0=some r):aJ Tryz.prog 97 [.agg (qc6 a0)] (.tup [.agg (bM r.1),vb r.2]):=by
 unfold mY at h
 refine xo Tryz.f97 rfl fun F0 w0 _=>?_
 refine Wp.seq (rg [1,2] [1,2] [(1,.own 1 0),(2,.own 2 0)] [(1,25,qc6 a0),(2,104,[.str [],.str [],vb false])] (To.ah (Wp.seq (Wp.seq (rg [1,2,17] [1,2] [(1,.own 1 0),(2,.own 2 0),(17,vb (a0.av==1))] [(1,25,qc6 a0),(2,104,[.str [],.str [],vb false])] (To.ah (cn h (fun h=>?_) (fun h=>?_))))))))
 ·refine Wp.seq ?_
  obtain⟨r1,hr1,h⟩:=au h
  refine rc [] 2 [2,4,5] [2,4] [(2,.own 2 0),(4,.own 4 0),(5,vi r1.2)] [(2,104,[.str [],.str [],vb false]),(4,104,bM r1.1)] (G8 n a0.aC _ hr1) (To.ah (Wp.seq (rg [2,3] [2] [(2,.own 2 0),(3,vb (r1.2==0))] [(2,104,bM r1.1)] (To.ah (Wp.ret (To.aA ?_))))))
  cases h
  exact To.done hΓ (by kernel_rfl)
 ·refine Wp.skip (To.ah (Wp.seq (Wp.seq ?_)))
  obtain⟨r2,hr2,h⟩:=au h
  refine rr [(2,[28])] [(1,ls ([wW,oD,wU,wS])),(2,vb r2)] [] [1,2,30] [1,2] [(1,.own 1 0),(2,.own 2 0),(30,vb (!r2))] [(1,25,qc6 a0),(2,104,[.str [],.str [],vb false])] [(ck 1 [.str wW,.str oD,.str wU,.str wS] 4 (ls ([wW,oD,wU,wS]))/\aM (ls ([wW,oD,wU,wS]))),_] (ai.cons (du (by kernel_rfl) rfl (by kernel_rfl) (aI _)) (ai.cons (c1 (oa n a0 ([wW,oD,wU,wS]) _ hr2)) ai.nil)) (To.ah (cn h (fun h=>?_) (fun h=>?_)))
  ·refine Wp.seq (rg [2,3] [2] [(2,.own 2 0),(3,vb false)] [(2,104,[.str [],.str [],vb false])] (To.ah (Wp.ret (To.aA ?_))))
   cases h
   exact To.done hΓ (by kernel_rfl)
  ·refine Wp.skip (To.ah (Wp.seq ?_))
   obtain⟨r3,hr3,h⟩:=au h
   refine rc [] 1 [1,2,6,7] [1,2] [(1,.own 1 0),(2,.own 2 0),(6,.str r3.1),(7,vb r3.2)] [(1,25,qc6 a0),(2,104,[.str [],.str [],vb false])] (fH n a0 wW [] _ hr3) (To.ah (Wp.seq ?_))
   obtain⟨r4,hr4,h⟩:=au h
   refine rc [] 1 [1,2,6,7,8,9] [1,2] [(1,.own 1 0),(2,.own 2 0),(6,.str r3.1),(7,vb r3.2),(8,.str r4.1),(9,vb r4.2)] [(1,25,qc6 a0),(2,104,[.str [],.str [],vb false])] (fH n a0 oD [] _ hr4) (To.ah (Wp.seq ?_))
   obtain⟨r5,hr5,h⟩:=au h
   refine rc [] 1 [1,2,6,7,8,9,10,11] [1,2] [(1,.own 1 0),(2,.own 2 0),(6,.str r3.1),(7,vb r3.2),(8,.str r4.1),(9,vb r4.2),(10,.str r5.1),(11,vb r5.2)] [(1,25,qc6 a0),(2,104,[.str [],.str [],vb false])] (qb n a0 wU xm _ hr5) (To.ah (Wp.seq ?_))
   obtain⟨r6,hr6,h⟩:=au h
   refine rc [] 1 [2,6,7,8,9,10,11,12,13] [2] [(2,.own 2 0),(6,.str r3.1),(7,vb r3.2),(8,.str r4.1),(9,vb r4.2),(10,.str r5.1),(11,vb r5.2),(12,.str r6.1),(13,vb r6.2)] [(2,104,[.str [],.str [],vb false])] (fH n a0 wS [98,105,110,100] _ hr6) (To.ah (Wp.seq (rg [2,7,9,11,12,13,14] [2,14] [(2,.own 2 0),(7,vb r3.2),(9,vb r4.2),(11,vb r5.2),(12,.str r6.1),(13,vb r6.2),(14,.own 14 0)] [(2,104,[.str [],.str [],vb false]),(14,104,[.str r3.1,.str r4.1,vb (r5.1==nJ)])] (To.ah (Wp.seq ?_)))))
   obtain⟨r7,hr7,h⟩:=au h
   obtain⟨x8,hx8,h⟩:=aS h
   refine Wp.bI hm hΓ [(13,vb r7)] [2,3] [2] (K':=[(2,.own 2 0),(3,vb (bif (bif (bif (bif (bif r3.2 then r4.2 else false) then r5.2 else false) then r6.2 else false) then r7 else false) then(bif (bif (r6.1==[118,111,108,117,109,101]) then true else(r6.1==[98,105,110,100])) then true else(r6.1==[116,109,112,102,115])) else false))]) (L':=[(2,104,[.str r3.1,.str r4.1,vb (r5.1==nJ)])]) (ob:=[(((bif (bif (bif r3.2 then r4.2 else false) then r5.2 else false) then r6.2 else false)==true)=true->CX Tryz.prog 123 [.agg [.str r3.1,.str r4.1,vb (r5.1==nJ)]] (vb r7))]) (by kernel_rfl) (ai.cons (fun hg=>cx (ux n (aL.mk r3.1 r4.1 (r5.1==nJ)) _ (jB hg hr7))) ai.nil) (To.eq (K':=[(2,.own 2 0),(3,vb x8)]) (L':=[(2,104,[.str r3.1,.str r4.1,vb (r5.1==nJ)])]) (by cases hx8;rfl) (by cases hx8;rfl) (To.ah (Wp.ret ?_)))
   cases h
   exact To.done hΓ (by kernel_rfl)
def nZ(n:Nat)(v3:Bs)(v12:Bool)(b1:aL):Option (Bs) :=
 if v12=true then(if(decide (((List.length b1.aZ+List.length ([58]:Bs):Nat):Int)<=9223372036854775807))=true then(if(decide (((List.length (b1.aZ++[58])+List.length v3:Nat):Int)<=9223372036854775807))=true then(some ((b1.aZ++[58])++v3)) else none) else none)
 else some v3
variable {F0:Fz} {w0:Pt Tryz.prog} {Q:Exit->Act->World->Prop}
theorem D8(n:Nat)(v3:Bs)(v12:Bool)(b1:aL)(o:Bs)(h:nZ n v3 v12 b1=some o)(hQ:To 23 F0 w0 [(1,.own 1 0),(3,.str o)] [(1,104,bM b1)] .normal Q):Wp Tryz.prog 23 F0 w0 [(1,.own 1 0),(3,.str v3),(12,vb v12)] [(1,104,bM b1)] (cB (cA (cB (cB (cB (cF Tryz.f98)))))) Q:=by
 unfold nZ at h
 refine cn h (fun h=>?_) (fun h=>?_)
 ·obtain⟨hc2,h⟩:=ax h
  obtain⟨hc3,h⟩:=ax h
  refine r0 [1,3] [1] [(1,.own 1 0),(3,.str ((b1.aZ++[58])++v3))] [(1,104,bM b1)] (ai.cons hc2 (ai.cons hc3 ai.nil)) (kt [1,3] [1] [(1,.own 1 0),(3,.str ((b1.aZ++[58])++v3))] [(1,104,bM b1)] ?_)
  cases h
  exact hQ
 ·refine Wp.skip (kt [1,3] [1] [(1,.own 1 0),(3,.str v3)] [(1,104,bM b1)] ?_)
  cases h
  exact hQ
def rf(n:Nat)(v3:Bs)(v19:Bool):Option (Bs) :=
 if v19=true then(if(decide (((List.length v3+List.length (uT:Bs):Nat):Int)<=9223372036854775807))=true then(some (v3++uT)) else none)
 else some v3
theorem EP(n:Nat)(v3:Bs)(v19:Bool)(o:Bs)(h:rf n v3 v19=some o)(hQ:To 23 F0 w0 [(3,.str o)] [] .normal Q):Wp Tryz.prog 23 F0 w0 [(3,.str v3),(19,vb v19)] [] (cB (cA (cB (cB (cB (cB (cF Tryz.f98))))))) Q:=by
 unfold rf at h
 refine cn h (fun h=>?_) (fun h=>?_)
 ·obtain⟨hc3,h⟩:=ax h
  refine r0 [3] [] [(3,.str (v3++uT))] [] (ai.cons hc3 ai.nil) (kt [3] [] [(3,.str (v3++uT))] [] ?_)
  cases h
  exact hQ
 ·refine Wp.skip (kt [3] [] [(3,.str v3)] [] ?_)
  cases h
  exact hQ
def tW(n:Nat)(a0:aL):Option (Bs) :=
 (mD n a0).bind fun r1 =>
 if(!r1)=true then(some [])
 else((nZ n a0.cY (decide ((List.length a0.aZ:Int)>0)) a0).bind fun o2 =>
 (rf n o2 a0.gk).bind fun o3 =>
 some o3)
theorem JE(n:Nat)(a0:aL)(r:Bs)(h:tW n a0=some r):aJ Tryz.prog 98 [.agg (bM a0)] (.str r):=by
 unfold tW at h
 refine xo Tryz.f98 rfl fun F0 w0 _=>?_
 refine Wp.seq (rg [1] [1] [(1,.own 1 0)] [(1,104,bM a0)] (To.ah (Wp.seq (Wp.seq ?_))))
 obtain⟨r1,hr1,h⟩:=au h
 refine rc [] 1 [1,6] [1] [(1,.own 1 0),(6,vb (!r1))] [(1,104,bM a0)] (ux n a0 _ hr1) (To.ah (cn h (fun h=>?_) (fun h=>?_)))
 ·refine Wp.seq (rg [2] [] [(2,.str [])] [] (To.ah (Wp.ret (To.aA ?_))))
  cases h
  exact To.done hΓ (by kernel_rfl)
 ·refine Wp.skip (To.ah (Wp.seq (rg [1,3] [1] [(1,.own 1 0),(3,.str a0.cY)] [(1,104,bM a0)] (To.ah (Wp.seq (Wp.seq (rg [1,3,12] [1] [(1,.own 1 0),(3,.str a0.cY),(12,vb (decide ((K3 a0)>0)))] [(1,104,bM a0)] (To.ah ?_))))))))
  obtain⟨o2,ho2,h⟩:=au h
  refine kw [1,3,12] [1] [(1,.own 1 0),(3,.str a0.cY),(12,vb (decide ((K3 a0)>0)))] [(1,104,bM a0)] (D8 n a0.cY (decide ((K3 a0)>0)) a0 o2 ho2 (To.ah (Wp.seq (Wp.seq (rg [3,19] [] [(3,.str o2),(19,vb a0.gk)] [] (To.ah ?_))))))
  obtain⟨o3,ho3,h⟩:=au h
  refine kw [3,19] [] [(3,.str o2),(19,vb a0.gk)] [] (EP n o2 a0.gk o3 ho3 (To.ah (Wp.seq (rg [2] [] [(2,.str o3)] [] (To.ah (Wp.ret ?_))))))
  cases h
  exact To.done hΓ (by kernel_rfl)
def dF(n:Nat)(b1:af):Nat->Int->af->af->Option (Sum (af×af) (Bool×af))
 |0,_,_,_=>none
 |k+1,v5,b2,b4=>if(decide (v5<(List.length b1.aj:Int)))=true then(if(decide (0<=v5/\v5<(List.length b1.aj:Int)))=true then((mY n ((b1.aj)[Int.toNat v5]?.getD (af.mk 0 [] [] []))).bind fun r1 =>
 (tW n r1.1).bind fun r2 =>
 if((!(((b1.av==3)==true)&&((!r1.2)==false))||decide (0<=v5/\v5<(List.length b1.aj:Int))))=true then(if((!((((((b1.aj)[Int.toNat v5]?.getD (af.mk 0 [] [] [])).av) != 1)==false)&&(((b1.av==3)==true)&&((!r1.2)==false)))||decide (0<=v5/\v5<(List.length b1.aj:Int))))=true then(if((!(((bif ((((b1.aj)[Int.toNat v5]?.getD (af.mk 0 [] [] [])).av) != 1) then true else(!((((b1.aj)[Int.toNat v5]?.getD (af.mk 0 [] [] [])).aC)==r2)))==false)&&(((b1.av==3)==true)&&((!r1.2)==false)))||decide (0<=v5/\v5<(List.length b1.ak:Int))))=true then(aQ ((bif (!r1.2) then true else(bif (b1.av==3) then(bif (bif ((((b1.aj)[Int.toNat v5]?.getD (af.mk 0 [] [] [])).av) != 1) then true else(!((((b1.aj)[Int.toNat v5]?.getD (af.mk 0 [] [] [])).aC)==r2))) then true else(!(((b1.ak)[Int.toNat v5]?.getD [])==r1.1.cY))) else false)):Bool) fun x3 =>
 if x3=true then(some (.inr (false,(af.mk 0 [] [] []))))
 else(aQ (dA r2) fun r4 =>
 (dK n b4 r1.1.cY r4).bind fun r5 =>
 dF n b1 k (IntKind.wrap .i64 (v5+1)) b2 r5)) else none) else none) else none) else none)
 else(some (.inl (b2,b4)))
abbrev U1(x0:Int)(x1:af):=(0<=x0/\x0<(List.length x1.ak:Int))
theorem A7(n:Nat)(b1:af)(k:Nat):∀(v5:Int)(b2:af)(b4:af)(o:Sum (af×af) (Bool×af)),dF n b1 k v5 b2 b4=some o->(Sum.elim (fun s=>To 85 F0 w0 [(2,.own 2 0),(4,.own 4 0)] [(2,25,qc6 s.1),(4,25,qc6 s.2)] (.exit 0) Q) (fun s=>To 85 F0 w0 [(2,.own 2 0),(3,vb s.1)] [(2,25,qc6 s.2)] .ret Q)) o->WL Tryz.prog 85 F0 w0 [(1,.own 1 0),(2,.own 2 0),(4,.own 4 0),(5,vi v5)] [(1,25,qc6 b1),(2,25,qc6 b2),(4,25,qc6 b4)] (cI (cI (cB (cA (cB (cB (cB (cF Tryz.f73)))))))) Q:=by
 induction k with
 |zero=>intro v5 b2 b4 o h;cases h
 |succ k ih =>
  intro v5 b2 b4 o h hQ
  rw[dF] at h
  refine WL.round (Wp.seq (Wp.seq (rg [1,2,4,5,24] [1,2,4] [(1,.own 1 0),(2,.own 2 0),(4,.own 4 0),(5,vi v5),(24,vb (ex8 v5 b1))] [(1,25,qc6 b1),(2,25,qc6 b2),(4,25,qc6 b4)] (To.ah (cn h (fun h=>?_) (fun h=>?_))))))
  ·refine Wp.skip (To.ah (Wp.seq (Wp.block (Wp.seq ?_))))
   obtain⟨hc9,h⟩:=ax h
   obtain⟨r1,hr1,h⟩:=au h
   refine rr [] [(5,.tup [.agg (bM r1.1),vb r1.2])] [] [1,2,4,5,6,7] [1,2,4,6] [(1,.own 1 0),(2,.own 2 0),(4,.own 4 0),(5,vi v5),(6,.own 6 0),(7,vb r1.2)] [(1,25,qc6 b1),(2,25,qc6 b2),(4,25,qc6 b4),(6,104,bM r1.1)] [_,_] (ai.cons hc9 (ai.cons (c1 (CM n (ex5 b1 v5) _ hr1)) ai.nil)) (To.ah (Wp.seq ?_))
   obtain⟨r2,hr2,h⟩:=au h
   refine rc [] 1 [1,2,4,5,6,7,8] [1,2,4,6] [(1,.own 1 0),(2,.own 2 0),(4,.own 4 0),(5,vi v5),(6,.own 6 0),(7,vb r1.2),(8,.str r2)] [(1,25,qc6 b1),(2,25,qc6 b2),(4,25,qc6 b4),(6,104,bM r1.1)] (JE n r1.1 _ hr2) (To.ah (Wp.seq (Wp.seq ?_)))
   obtain⟨hc6,h⟩:=ax h
   obtain⟨hc7,h⟩:=ax h
   obtain⟨hc8,h⟩:=ax h
   obtain⟨x3,hx3,h⟩:=aS h
   refine Wp.bI hm hΓ [] [1,2,4,5,6,8,73] [1,2,4,6] (K':=[(1,.own 1 0),(2,.own 2 0),(4,.own 4 0),(5,vi v5),(6,.own 6 0),(8,.str r2),(73,vb (bif (!r1.2) then true else(bif (b1.av==3) then(bif (bif (((ex5 b1 v5).av) != 1) then true else(!(((ex5 b1 v5).aC)==r2))) then true else(!((df b1 v5)==r1.1.cY))) else false)))]) (L':=[(1,25,qc6 b1),(2,25,qc6 b2),(4,25,qc6 b4),(6,104,bM r1.1)]) (ob:=[(!(((b1.av==3)==true)&&((!r1.2)==false))||decide (ex6 v5 b1))=true,(!(((((ex5 b1 v5).av) != 1)==false)&&(((b1.av==3)==true)&&((!r1.2)==false)))||decide (ex6 v5 b1))=true,(!(((bif (((ex5 b1 v5).av) != 1) then true else(!(((ex5 b1 v5).aC)==r2)))==false)&&(((b1.av==3)==true)&&((!r1.2)==false)))||decide (U1 v5 b1))=true]) (by kernel_rfl) (ai.cons hc6 (ai.cons hc7 (ai.cons hc8 ai.nil))) (To.eq (K':=[(1,.own 1 0),(2,.own 2 0),(4,.own 4 0),(5,vi v5),(6,.own 6 0),(8,.str r2),(73,vb x3)]) (L':=[(1,25,qc6 b1),(2,25,qc6 b2),(4,25,qc6 b4),(6,104,bM r1.1)]) (by cases hx3;rfl) (by cases hx3;rfl) (To.ah (cn h (fun h=>?_) (fun h=>?_))))
   ·refine Wp.seq (rg [2,3] [2] [(2,.own 2 0),(3,vb false)] [(2,25,[vi 0,.str [],.val (.slice none 0 0),.val (.slice none 0 0)])] (To.ah (Wp.ret (To.aA (To.aP (To.aA (To.aA (To.weak (K':=[(2,.own 2 0),(3,vb false)]) (L':=[(2,25,[vi 0,.str [],ls [],tn4 []])]) (.cons (.refl _) (.cons (.refl _) .nil)) (.cons (.cons (.refl _) (.cons (.refl _) (.cons (.zero _ _) (.cons (.bu _ _ _) .nil)))) .nil) ?_))))))))
    cases h
    exact hQ
   ·refine Wp.skip (To.ah ?_)
    obtain⟨r4,hr4,h⟩:=aS h
    obtain⟨r5,hr5,h⟩:=au h
    refine Wp.bI hm hΓ [(4,.agg (qc6 r4)),(5,.agg (qc6 r5))] [1,2,4,5] [1,2,4] (K':=[(1,.own 1 0),(2,.own 2 0),(4,.own 4 0),(5,vi v5)]) (L':=[(1,25,qc6 b1),(2,25,qc6 b2),(4,25,qc6 r5)]) (ob:=[(true=true->CX Tryz.prog 91 [.str r2] (.agg (qc6 r4))),(true=true->CX Tryz.prog 30 [.agg (qc6 b4),.str r1.1.cY,.agg (qc6 r4)] (.agg (qc6 r5)))]) (by kernel_rfl) (ai.cons (fun _=>cx (dM r2 _ hr4)) (ai.cons (fun _=>cx (eu n b4 r1.1.cY r4 _ hr5)) ai.nil)) (To.aR (To.ah (rg [1,2,4,5] [1,2,4] [(1,.own 1 0),(2,.own 2 0),(4,.own 4 0),(ex3 v5)] [(1,25,qc6 b1),(2,25,qc6 b2),(4,25,qc6 r5)] (kt [1,2,4,5] [1,2,4] [(1,.own 1 0),(2,.own 2 0),(4,.own 4 0),(ex3 v5)] [(1,25,qc6 b1),(2,25,qc6 b2),(4,25,qc6 r5)] (To.again ?_)))))
    exact ih (IntKind.wrap .i64 (v5+1)) b2 r5 _ h hQ
  ·refine Wp.exit (To.aK (To.aK (kt [2,4] [2,4] [(2,.own 2 0),(4,.own 4 0)] [(2,25,qc6 b2),(4,25,qc6 b4)] ?_)))
   cases h
   exact hQ
def pI(n:Nat)(a0:af):Option (af×Bool) :=
 if(bif (decide ((List.length a0.aj:Int)>32)) then true else(decide (a0.av<2)))=true then(some ((af.mk 0 [] [] []),false))
 else((dF n a0 n 0 (af.mk 0 [] [] []) (af.mk 0 [] [] [])).bind fun o1 =>
 (Sum.elim (fun o1=>(eO n o1.2 true).bind fun r2 =>
 some (r2.1,r2.2)) (fun o1=>some (o1.2,o1.1))) o1)
theorem Gu(n:Nat)(a0:af)(r:af×Bool)(h:pI n a0=some r):aJ Tryz.prog 73 [.agg (qc6 a0)] (.tup [.agg (qc6 r.1),vb r.2]):=by
 unfold pI at h
 refine xo Tryz.f73 rfl fun F0 w0 _=>?_
 refine Wp.seq (rg [1,2] [1,2] [(1,.own 1 0),(2,.own 2 0)] [(1,25,qc6 a0),(2,25,[vi 0,.str [],.val (.slice none 0 0),.val (.slice none 0 0)])] (To.ah (Wp.seq (Wp.seq (rg [1,2,17] [1,2] [(1,.own 1 0),(2,.own 2 0),(17,vb (TW a0))] [(1,25,qc6 a0),(2,25,[vi 0,.str [],.val (.slice none 0 0),.val (.slice none 0 0)])] (To.ah (cn h (fun h=>?_) (fun h=>?_))))))))
 ·refine Wp.seq (rg [2,3] [2] [(2,.own 2 0),(3,vb false)] [(2,25,[vi 0,.str [],.val (.slice none 0 0),.val (.slice none 0 0)])] (To.ah (Wp.ret (To.aA (To.weak (K':=[(2,.own 2 0),(3,vb false)]) (L':=[(2,25,[vi 0,.str [],ls [],tn4 []])]) (.cons (.refl _) (.cons (.refl _) .nil)) (.cons (.cons (.refl _) (.cons (.refl _) (.cons (.zero _ _) (.cons (.bu _ _ _) .nil)))) .nil) ?_)))))
  cases h
  exact To.done hΓ (by kernel_rfl)
 ·refine Wp.skip (To.ah (Wp.seq (rg [1,2,4] [1,2,4] [(1,.own 1 0),(2,.own 2 0),(4,.own 4 0)] [(1,25,qc6 a0),(2,25,[vi 0,.str [],.val (.slice none 0 0),.val (.slice none 0 0)]),(4,25,[vi 0,.str [],.val (.slice none 0 0),.val (.slice none 0 0)])] (To.ah (Wp.seq (Wp.seq (rg [1,2,4,5] [1,2,4] [(1,.own 1 0),(2,.own 2 0),(4,.own 4 0),(5,vi 0)] [(1,25,qc6 a0),(2,25,[vi 0,.str [],.val (.slice none 0 0),.val (.slice none 0 0)]),(4,25,[vi 0,.str [],.val (.slice none 0 0),.val (.slice none 0 0)])] (To.ah (Wp.block ?_)))))))))
  obtain⟨o1,ho1,h⟩:=au h
  refine kw [1,2,4,5] [1,2,4] [(1,.own 1 0),(2,.own 2 0),(4,.own 4 0),(5,vi 0)] [(1,25,qc6 a0),(2,25,[vi 0,.str [],.val (.slice none 0 0),.val (.slice none 0 0)]),(4,25,[vi 0,.str [],.val (.slice none 0 0),.val (.slice none 0 0)])] (Wp.weak (K':=[(1,.own 1 0),(2,.own 2 0),(4,.own 4 0),(5,vi 0)]) (L':=[(1,25,qc6 a0),(2,25,[vi 0,.str [],ls [],tn4 []]),(4,25,[vi 0,.str [],ls [],tn4 []])]) (.cons (.refl _) (.cons (.refl _) (.cons (.refl _) (.cons (.refl _) .nil)))) (.cons (.cons (.refl _) (.cons (.refl _) (.cons (.refl _) (.cons (.refl _) .nil)))) (.cons (.cons (.refl _) (.cons (.refl _) (.cons (.zero _ _) (.cons (.bu _ _ _) .nil)))) (.cons (.cons (.refl _) (.cons (.refl _) (.cons (.zero _ _) (.cons (.bu _ _ _) .nil)))) .nil))) (Wp.bE (A7 n a0 n 0 zx3 zx3 o1 ho1 ?_)))
  rcases o1 with o1|o1
  ·replace h:=cv h
   refine To.aY (To.ah (Wp.seq ?_))
   obtain⟨r2,hr2,h⟩:=au h
   refine rc [] 1 [2,3] [2] [(2,.own 2 0),(3,vb r2.2)] [(2,25,qc6 r2.1)] (jK n o1.2 true _ hr2) (To.ah (Wp.ret ?_))
   cases h
   exact To.done hΓ (by kernel_rfl)
  ·replace h:=cy h
   refine To.aP (To.aA ?_)
   cases h
   exact To.done hΓ (by kernel_rfl)
def nV(n:Nat)(v13:Bool)(b1:af)(b2:af):Option (af) :=
 if v13=true then(some (af.mk 3 [] [] []))
 else some b1
theorem En(n:Nat)(v13:Bool)(b1:af)(b2:af)(o:af)(h:nV n v13 b1 b2=some o)(hQ:To 64 F0 w0 [(1,.own 1 0),(2,.own 2 0)] [(1,25,qc6 o),(2,25,qc6 b2)] .normal Q):Wp Tryz.prog 64 F0 w0 [(1,.own 1 0),(2,.own 2 0),(13,vb v13)] [(1,25,qc6 b1),(2,25,qc6 b2)] (cB (cA (cB (cF Tryz.f99)))) Q:=by
 unfold nV at h
 refine cn h (fun h=>?_) (fun h=>?_)
 ·refine rg [1,2] [1,2] [(1,.own 1 0),(2,.own 2 0)] [(1,25,[vi 3,.str [],.val (.slice none 0 0),.val (.slice none 0 0)]),(2,25,qc6 b2)] (kt [1,2] [1,2] [(1,.own 1 0),(2,.own 2 0)] [(1,25,[vi 3,.str [],.val (.slice none 0 0),.val (.slice none 0 0)]),(2,25,qc6 b2)] (To.weak (K':=[(1,.own 1 0),(2,.own 2 0)]) (L':=[(1,25,[vi 3,.str [],ls [],tn4 []]),(2,25,qc6 b2)]) (.cons (.refl _) (.cons (.refl _) .nil)) (.cons (.cons (.refl _) (.cons (.refl _) (.cons (.zero _ _) (.cons (.bu _ _ _) .nil)))) (.cons (.cons (.refl _) (.cons (.refl _) (.cons (.refl _) (.cons (.refl _) .nil)))) .nil)) ?_))
  cases h
  exact hQ
 ·refine Wp.skip (kt [1,2] [1,2] [(1,.own 1 0),(2,.own 2 0)] [(1,25,qc6 b1),(2,25,qc6 b2)] ?_)
  cases h
  exact hQ
def rY(n:Nat)(a0:af):Option (af×Bool) :=
 (nV n (a0.av==0) a0 (af.mk 0 [] [] [])).bind fun o1 =>
 (jI n o1 ([rG,mB,nK])).bind fun r2 =>
 if(!r2)=true then(some ((af.mk 0 [] [] []),false))
 else((eX n o1 rG JQ).bind fun r3 =>
 (kQ n o1 mB xm).bind fun r4 =>
 (kQ n o1 nK nJ).bind fun r5 =>
 aQ ((bif (bif (r3.1==JQ) then true else(r3.1==Sj)) then true else(r3.1==RP)):Bool) fun x6 =>
 aQ (dA r3.1) fun r7 =>
 aQ (dA r5.1) fun r8 =>
 aQ (dA r4.1) fun r9 =>
 aQ ([rG,nK,mB]:Ls) fun x10 =>
 some ((af.mk 3 [] x10 [r7,r8,r9]),(bif (bif (bif r3.2 then r4.2 else false) then r5.2 else false) then x6 else false)))
theorem Jz(n:Nat)(a0:af)(r:af×Bool)(h:rY n a0=some r):aJ Tryz.prog 99 [.agg (qc6 a0)] (.tup [.agg (qc6 r.1),vb r.2]):=by
 unfold rY at h
 refine xo Tryz.f99 rfl fun F0 w0 _=>?_
 refine Wp.seq (rg [1,2] [1,2] [(1,.own 1 0),(2,.own 2 0)] [(1,25,qc6 a0),(2,25,[vi 0,.str [],.val (.slice none 0 0),.val (.slice none 0 0)])] (To.ah (Wp.seq (Wp.seq (rg [1,2,13] [1,2] [(1,.own 1 0),(2,.own 2 0),(13,vb (a0.av==0))] [(1,25,qc6 a0),(2,25,[vi 0,.str [],.val (.slice none 0 0),.val (.slice none 0 0)])] (To.ah ?_))))))
 obtain⟨o1,ho1,h⟩:=au h
 refine kw [1,2,13] [1,2] [(1,.own 1 0),(2,.own 2 0),(13,vb (a0.av==0))] [(1,25,qc6 a0),(2,25,[vi 0,.str [],.val (.slice none 0 0),.val (.slice none 0 0)])] (Wp.weak (K':=[(1,.own 1 0),(2,.own 2 0),(13,vb (a0.av==0))]) (L':=[(1,25,qc6 a0),(2,25,[vi 0,.str [],ls [],tn4 []])]) (.cons (.refl _) (.cons (.refl _) (.cons (.refl _) .nil))) (.cons (.cons (.refl _) (.cons (.refl _) (.cons (.refl _) (.cons (.refl _) .nil)))) (.cons (.cons (.refl _) (.cons (.refl _) (.cons (.zero _ _) (.cons (.bu _ _ _) .nil)))) .nil)) (En n (a0.av==0) a0 zx3 o1 ho1 (To.ah (Wp.seq (Wp.seq ?_)))))
 obtain⟨r2,hr2,h⟩:=au h
 refine rr [(2,[16])] [(1,ls ([rG,mB,nK])),(2,vb r2)] [] [1,2,18] [1,2] [(1,.own 1 0),(2,.own 2 0),(18,vb (!r2))] [(1,25,qc6 o1),(2,25,[vi 0,.str [],ls [],tn4 []])] [(ck 1 [.str rG,.str mB,.str nK] 3 (ls ([rG,mB,nK]))/\aM (ls ([rG,mB,nK]))),_] (ai.cons (du (by kernel_rfl) rfl (by kernel_rfl) (aI _)) (ai.cons (c1 (oa n o1 ([rG,mB,nK]) _ hr2)) ai.nil)) (To.ah (cn h (fun h=>?_) (fun h=>?_)))
 ·refine Wp.seq (rg [2,3] [2] [(2,.own 2 0),(3,vb false)] [(2,25,[vi 0,.str [],.val (.slice none 0 0),.val (.slice none 0 0)])] (To.ah (Wp.ret (To.aA (To.weak (K':=[(2,.own 2 0),(3,vb false)]) (L':=[(2,25,[vi 0,.str [],ls [],tn4 []])]) (.cons (.refl _) (.cons (.refl _) .nil)) (.cons (.cons (.refl _) (.cons (.refl _) (.cons (.zero _ _) (.cons (.bu _ _ _) .nil)))) .nil) ?_)))))
  cases h
  exact To.done hΓ (by kernel_rfl)
 ·refine Wp.skip (To.ah (Wp.seq ?_))
  obtain⟨r3,hr3,h⟩:=au h
  refine rc [] 1 [1,2,4,5] [1,2] [(1,.own 1 0),(2,.own 2 0),(4,.str r3.1),(5,vb r3.2)] [(1,25,qc6 o1),(2,25,[vi 0,.str [],ls [],tn4 []])] (fH n o1 rG JQ _ hr3) (To.ah (Wp.seq ?_))
  obtain⟨r4,hr4,h⟩:=au h
  refine rc [] 1 [1,2,4,5,6,7] [1,2] [(1,.own 1 0),(2,.own 2 0),(4,.str r3.1),(5,vb r3.2),(6,.str r4.1),(7,vb r4.2)] [(1,25,qc6 o1),(2,25,[vi 0,.str [],ls [],tn4 []])] (qb n o1 mB xm _ hr4) (To.ah (Wp.seq ?_))
  obtain⟨r5,hr5,h⟩:=au h
  refine rc [] 1 [2,4,5,6,7,8,9] [2] [(2,.own 2 0),(4,.str r3.1),(5,vb r3.2),(6,.str r4.1),(7,vb r4.2),(8,.str r5.1),(9,vb r5.2)] [(2,25,[vi 0,.str [],ls [],tn4 []])] (qb n o1 nK nJ _ hr5) (To.ah (Wp.seq ?_))
  obtain⟨x6,hx6,h⟩:=aS h
  refine rg [2,4,5,6,7,8,9,10] [2] [(2,.own 2 0),(4,.str r3.1),(5,vb r3.2),(6,.str r4.1),(7,vb r4.2),(8,.str r5.1),(9,vb r5.2),(10,vb (bif (bif (r3.1==JQ) then true else(r3.1==Sj)) then true else(r3.1==RP)))] [(2,25,[vi 0,.str [],ls [],tn4 []])] (To.eq (K':=[(2,.own 2 0),(4,.str r3.1),(5,vb r3.2),(6,.str r4.1),(7,vb r4.2),(8,.str r5.1),(9,vb r5.2),(10,vb x6)]) (L':=[(2,25,[vi 0,.str [],ls [],tn4 []])]) (by cases hx6;rfl) (by cases hx6;rfl) (To.ah (Wp.seq ?_)))
  obtain⟨r7,hr7,h⟩:=aS h
  obtain⟨r8,hr8,h⟩:=aS h
  obtain⟨r9,hr9,h⟩:=aS h
  obtain⟨x10,hx10,h⟩:=aS h
  refine rr [] [(0,ls ([rG,nK,mB])),(2,.agg (qc6 r7)),(4,.agg (qc6 r8)),(6,.agg (qc6 r9)),(7,rs8 [r7,r8,r9])] [] [2,3] [2,45,52] [(2,.own 2 0),(3,vb (bif (bif (bif r3.2 then r4.2 else false) then r5.2 else false) then x6 else false))] [(2,25,[vi 3,.str [],.row 45,.row 52]),(45,9,[rc1 ([rG,nK,mB])]),(52,25,[rc9 [r7,r8,r9]])] [(ck 1 [.str rG,.str nK,.str mB] 3 (ls ([rG,nK,mB]))/\aM (ls ([rG,nK,mB]))),_,_,_,(ck 4 [vi r7.av,.str r7.aC,ls r7.ak,tn4 r7.aj,vi r8.av,.str r8.aC,ls r8.ak,tn4 r8.aj,vi r9.av,.str r9.aC,ls r9.ak,tn4 r9.aj] 3 (rs8 [r7,r8,r9])/\aM (rs8 [r7,r8,r9]))] (ai.cons (du (by kernel_rfl) rfl (by kernel_rfl) (aI _)) (ai.cons (c1 (dM r3.1 _ hr7)) (ai.cons (c1 (dM r5.1 _ hr8)) (ai.cons (c1 (dM r4.1 _ hr9)) (ai.cons (du (by kernel_rfl) rfl (by kernel_rfl) (bg _)) ai.nil))))) (To.eq (K':=[(2,.own 2 0),(3,vb (bif (bif (bif r3.2 then r4.2 else false) then r5.2 else false) then x6 else false))]) (L':=[(2,25,[vi 3,.str [],.row 45,.row 52]),(45,9,[rc1 x10]),(52,25,[rc9 [r7,r8,r9]])]) (by cases hx10;rfl) (by cases hx10;rfl) (To.ah (Wp.ret (kt [2,3] [2,45,52] [(2,.own 2 0),(3,vb (bif (bif (bif r3.2 then r4.2 else false) then r5.2 else false) then x6 else false))] [(2,25,[vi 3,.str [],.row 45,.row 52]),(45,9,[rc1 x10]),(52,25,[rc9 [r7,r8,r9]])] (To.pre (St.settle (ks:=[45,52]) (kk:=[2,3]) (kl:=[2,45,52]) (K':=[(2,.own 2 0),(3,vb (bif (bif (bif r3.2 then r4.2 else false) then r5.2 else false) then x6 else false))]) (L':=[(2,25,[vi 3,.str [],.row 45,.row 52]),(45,9,[rc2 x10]),(52,25,[iY [r7,r8,r9]])]) (by kernel_rfl)) (To.pre (St.uS [2] (L':=[(2,25,[vi 3,.str [],ls x10,rs8 [r7,r8,r9]]),(45,9,[rc2 x10]),(52,25,[iY [r7,r8,r9]])]) (by kernel_rfl)) (To.weak (K':=[(2,.own 2 0),(3,vb (bif (bif (bif r3.2 then r4.2 else false) then r5.2 else false) then x6 else false))]) (L':=[(2,25,[vi 3,.str [],ls x10,tn4 [r7,r8,r9]]),(45,9,[rc2 x10]),(52,25,[iY [r7,r8,r9]])]) (.cons (.refl _) (.cons (.refl _) .nil)) (.cons (.cons (.refl _) (.cons (.refl _) (.cons (.refl _) (.cons (.close _ _ _ _) .nil)))) (.cons (.cons (.refl _) .nil) (.cons (.cons (.refl _) .nil) .nil))) ?_)))))))
  cases h
  exact To.done hΓ (by kernel_rfl)
def nN(n:Nat)(v4:Ls)(v5:Bool)(v24:Bool)(b1:af)(b2:af):Option ((Ls)×Bool) :=
 if v24=true then(some (b1.ak,true))
 else(some (v4,v5))
theorem Eh(n:Nat)(v4:Ls)(v5:Bool)(v24:Bool)(b1:af)(b2:af)(o:(Ls)×Bool)(h:nN n v4 v5 v24 b1 b2=some o)(hQ:To 71 F0 w0 [(1,.own 1 0),(2,.own 2 0),(4,ls o.1),(5,vb o.2)] [(1,25,qc6 b1),(2,25,qc6 b2)] .normal Q):Wp Tryz.prog 71 F0 w0 [(1,.own 1 0),(2,.own 2 0),(4,ls v4),(5,vb v5),(24,vb v24)] [(1,25,qc6 b1),(2,25,qc6 b2)] (cB (cA (cB (cB (cF Tryz.f74))))) Q:=by
 unfold nN at h
 refine cn h (fun h=>?_) (fun h=>?_)
 ·refine Wp.seq (rg [1,2,4] [1,2] [(1,.own 1 0),(2,.own 2 0),(4,ls b1.ak)] [(1,25,qc6 b1),(2,25,qc6 b2)] (To.ah (rg [1,2,4,5] [1,2] [(1,.own 1 0),(2,.own 2 0),(4,ls b1.ak),(5,vb true)] [(1,25,qc6 b1),(2,25,qc6 b2)] (kt [1,2,4,5] [1,2] [(1,.own 1 0),(2,.own 2 0),(4,ls b1.ak),(5,vb true)] [(1,25,qc6 b1),(2,25,qc6 b2)] ?_))))
  cases h
  exact hQ
 ·refine Wp.skip (kt [1,2,4,5] [1,2] [(1,.own 1 0),(2,.own 2 0),(4,ls v4),(5,vb v5)] [(1,25,qc6 b1),(2,25,qc6 b2)] ?_)
  cases h
  exact hQ
def nX(n:Nat)(v4:Ls)(v7:Int)(v40:Bool)(b1:af)(b2:af)(b6:af)(b8:af):Option (af) :=
 if v40=true then(if(decide (0<=v7/\v7<(List.length b1.aj:Int)))=true then(some ((b1.aj)[Int.toNat v7]?.getD (af.mk 0 [] [] []))) else none)
 else some b8
theorem Ei(n:Nat)(v4:Ls)(v7:Int)(v40:Bool)(b1:af)(b2:af)(b6:af)(b8:af)(o:af)(h:nX n v4 v7 v40 b1 b2 b6 b8=some o)(hQ:To 71 F0 w0 [(1,.own 1 0),(2,.own 2 0),(4,ls v4),(6,.own 6 0),(7,vi v7),(8,.own 8 0)] [(1,25,qc6 b1),(2,25,qc6 b2),(6,25,qc6 b6),(8,25,qc6 o)] .normal Q):Wp Tryz.prog 71 F0 w0 [(1,.own 1 0),(2,.own 2 0),(4,ls v4),(6,.own 6 0),(7,vi v7),(8,.own 8 0),(40,vb v40)] [(1,25,qc6 b1),(2,25,qc6 b2),(6,25,qc6 b6),(8,25,qc6 b8)] (cB (cA (cB (cI (cA (cB (cI (cI (cB (cA (cB (cB (cB (cB (cF Tryz.f74))))))))))))))) Q:=by
 unfold nX at h
 refine cn h (fun h=>?_) (fun h=>?_)
 ·obtain⟨hc3,h⟩:=ax h
  refine r0 [1,2,4,6,7,8] [1,2,6,8] [(1,.own 1 0),(2,.own 2 0),(4,ls v4),(6,.own 6 0),(7,vi v7),(8,.own 8 0)] [(1,25,qc6 b1),(2,25,qc6 b2),(6,25,qc6 b6),(8,25,[vi ((ex5 b1 v7).av),.str ((ex5 b1 v7).aC),ls ((ex5 b1 v7).ak),tn4 ((ex5 b1 v7).aj)])] (ai.cons hc3 ai.nil) (kt [1,2,4,6,7,8] [1,2,6,8] [(1,.own 1 0),(2,.own 2 0),(4,ls v4),(6,.own 6 0),(7,vi v7),(8,.own 8 0)] [(1,25,qc6 b1),(2,25,qc6 b2),(6,25,qc6 b6),(8,25,[vi ((ex5 b1 v7).av),.str ((ex5 b1 v7).aC),ls ((ex5 b1 v7).ak),tn4 ((ex5 b1 v7).aj)])] ?_)
  cases h
  exact hQ
 ·refine Wp.skip (kt [1,2,4,6,7,8] [1,2,6,8] [(1,.own 1 0),(2,.own 2 0),(4,ls v4),(6,.own 6 0),(7,vi v7),(8,.own 8 0)] [(1,25,qc6 b1),(2,25,qc6 b2),(6,25,qc6 b6),(8,25,qc6 b8)] ?_)
  cases h
  exact hQ
def nT(n:Nat)(v4:Ls)(v7:Int)(b1:af)(b2:af)(b6:af):Option (Bool×af) :=
 (nX n v4 v7 (b1.av==3) b1 b2 b6 (af.mk 0 [] [] [])).bind fun o3 =>
 (rY n o3).bind fun r4 =>
 if((!(r4.2==true)||decide (0<=v7/\v7<(List.length v4:Int))))=true then(((if(r4.2==true)=true then il n ((v4)[Int.toNat v7]?.getD []) else some false)).bind fun r5 =>
 if(decide (0<=v7/\v7<(List.length v4:Int)))=true then((dK n b6 ((v4)[Int.toNat v7]?.getD []) r4.1).bind fun r6 =>
 some ((bif r4.2 then r5 else false),r6)) else none) else none
theorem EO(n:Nat)(v4:Ls)(v7:Int)(b1:af)(b2:af)(b6:af)(o:Bool×af)(h:nT n v4 v7 b1 b2 b6=some o)(hQ:To 71 F0 w0 [(1,.own 1 0),(2,.own 2 0),(4,ls v4),(5,vb o.1),(6,.own 6 0),(7,vi v7)] [(1,25,qc6 b1),(2,25,qc6 b2),(6,25,qc6 o.2)] .normal Q):Wp Tryz.prog 71 F0 w0 [(1,.own 1 0),(2,.own 2 0),(4,ls v4),(6,.own 6 0),(7,vi v7)] [(1,25,qc6 b1),(2,25,qc6 b2),(6,25,qc6 b6)] (cA (cB (cI (cI (cB (cA (cB (cB (cB (cB (cF Tryz.f74))))))))))) Q:=by
 unfold nT at h
 refine Wp.block (Wp.seq (rg [1,2,4,6,7,8] [1,2,6,8] [(1,.own 1 0),(2,.own 2 0),(4,ls v4),(6,.own 6 0),(7,vi v7),(8,.own 8 0)] [(1,25,qc6 b1),(2,25,qc6 b2),(6,25,qc6 b6),(8,25,[vi 0,.str [],.val (.slice none 0 0),.val (.slice none 0 0)])] (To.ah (Wp.seq (Wp.seq (rg [1,2,4,6,7,8,40] [1,2,6,8] [(1,.own 1 0),(2,.own 2 0),(4,ls v4),(6,.own 6 0),(7,vi v7),(8,.own 8 0),(40,vb (b1.av==3))] [(1,25,qc6 b1),(2,25,qc6 b2),(6,25,qc6 b6),(8,25,[vi 0,.str [],.val (.slice none 0 0),.val (.slice none 0 0)])] (To.ah ?_)))))))
 obtain⟨o3,ho3,h⟩:=au h
 refine kw [1,2,4,6,7,8,40] [1,2,6,8] [(1,.own 1 0),(2,.own 2 0),(4,ls v4),(6,.own 6 0),(7,vi v7),(8,.own 8 0),(40,vb (b1.av==3))] [(1,25,qc6 b1),(2,25,qc6 b2),(6,25,qc6 b6),(8,25,[vi 0,.str [],.val (.slice none 0 0),.val (.slice none 0 0)])] (Wp.weak (K':=[(1,.own 1 0),(2,.own 2 0),(4,ls v4),(6,.own 6 0),(7,vi v7),(8,.own 8 0),(40,vb (b1.av==3))]) (L':=[(1,25,qc6 b1),(2,25,qc6 b2),(6,25,qc6 b6),(8,25,[vi 0,.str [],ls [],tn4 []])]) (.cons (.refl _) (.cons (.refl _) (.cons (.refl _) (.cons (.refl _) (.cons (.refl _) (.cons (.refl _) (.cons (.refl _) .nil))))))) (.cons (.cons (.refl _) (.cons (.refl _) (.cons (.refl _) (.cons (.refl _) .nil)))) (.cons (.cons (.refl _) (.cons (.refl _) (.cons (.refl _) (.cons (.refl _) .nil)))) (.cons (.cons (.refl _) (.cons (.refl _) (.cons (.refl _) (.cons (.refl _) .nil)))) (.cons (.cons (.refl _) (.cons (.refl _) (.cons (.zero _ _) (.cons (.bu _ _ _) .nil)))) .nil)))) (Ei n v4 v7 (b1.av==3) b1 b2 b6 zx3 o3 ho3 (To.ah (Wp.seq ?_))))
 obtain⟨r4,hr4,h⟩:=au h
 refine rc [] 1 [1,2,4,6,7,9,10] [1,2,6,9] [(1,.own 1 0),(2,.own 2 0),(4,ls v4),(6,.own 6 0),(7,vi v7),(9,.own 9 0),(10,vb r4.2)] [(1,25,qc6 b1),(2,25,qc6 b2),(6,25,qc6 b6),(9,25,qc6 r4.1)] (Jz n o3 _ hr4) (To.ah (Wp.seq ?_))
 obtain⟨hc8,h⟩:=ax h
 obtain⟨r5,hr5,h⟩:=au h
 refine rr [] [(6,vb r5)] [] [1,2,4,5,6,7,9] [1,2,6,9] [(1,.own 1 0),(2,.own 2 0),(4,ls v4),(5,vb (bif r4.2 then r5 else false)),(6,.own 6 0),(7,vi v7),(9,.own 9 0)] [(1,25,qc6 b1),(2,25,qc6 b2),(6,25,qc6 b6),(9,25,qc6 r4.1)] [_,((r4.2==true)=true->CX Tryz.prog 45 [.str ((v4)[Int.toNat v7]?.getD [])] (vb r5))] (ai.cons hc8 (ai.cons (fun hg=>cx (jW n ((v4)[Int.toNat v7]?.getD []) _ (jB hg hr5))) ai.nil)) (To.ah ?_)
 obtain⟨hc7,h⟩:=ax h
 obtain⟨r6,hr6,h⟩:=au h
 refine Wp.bI hm hΓ [(6,.agg (qc6 r6))] [1,2,4,5,6,7] [1,2,6] (K':=[(1,.own 1 0),(2,.own 2 0),(4,ls v4),(5,vb (bif r4.2 then r5 else false)),(6,.own 6 0),(7,vi v7)]) (L':=[(1,25,qc6 b1),(2,25,qc6 b2),(6,25,qc6 r6)]) (ob:=[(zw v7 v4)=true,(true=true->CX Tryz.prog 30 [.agg (qc6 b6),.str ((v4)[Int.toNat v7]?.getD []),.agg (qc6 r4.1)] (.agg (qc6 r6)))]) (by kernel_rfl) (ai.cons hc7 (ai.cons (fun _=>cx (eu n b6 ((v4)[Int.toNat v7]?.getD []) r4.1 _ hr6)) ai.nil)) (To.aR (kt [1,2,4,5,6,7] [1,2,6] [(1,.own 1 0),(2,.own 2 0),(4,ls v4),(5,vb (bif r4.2 then r5 else false)),(6,.own 6 0),(7,vi v7)] [(1,25,qc6 b1),(2,25,qc6 b2),(6,25,qc6 r6)] ?_))
 cases h
 exact hQ
def fA(n:Nat)(v4:Ls)(b1:af)(b2:af):Nat->Bool->Int->af->Option (Bool×af)
 |0,_,_,_=>none
 |k+1,v5,v7,b6=>if(bif (decide (v7<(List.length v4:Int))) then v5 else false)=true then((nT n v4 v7 b1 b2 b6).bind fun o3 =>
 fA n v4 b1 b2 k o3.1 (IntKind.wrap .i64 (v7+1)) o3.2)
 else(some (v5,b6))
theorem E4(n:Nat)(v4:Ls)(b1:af)(b2:af)(k:Nat):∀(v5:Bool)(v7:Int)(b6:af)(o:Bool×af),fA n v4 b1 b2 k v5 v7 b6=some o->To 71 F0 w0 [(2,.own 2 0),(5,vb o.1),(6,.own 6 0)] [(2,25,qc6 b2),(6,25,qc6 o.2)] (.exit 0) Q->WL Tryz.prog 71 F0 w0 [(1,.own 1 0),(2,.own 2 0),(4,ls v4),(5,vb v5),(6,.own 6 0),(7,vi v7)] [(1,25,qc6 b1),(2,25,qc6 b2),(6,25,qc6 b6)] (cI (cI (cB (cA (cB (cB (cB (cB (cF Tryz.f74))))))))) Q:=by
 induction k with
 |zero=>intro v5 v7 b6 o h;cases h
 |succ k ih =>
  intro v5 v7 b6 o h hQ
  rw[fA] at h
  refine WL.round (Wp.seq (Wp.seq (rg [1,2,4,5,6,7,34] [1,2,6] [(1,.own 1 0),(2,.own 2 0),(4,ls v4),(5,vb v5),(6,.own 6 0),(7,vi v7),(34,vb (bif (ex4 v7 v4) then v5 else false))] [(1,25,qc6 b1),(2,25,qc6 b2),(6,25,qc6 b6)] (To.ah (cn h (fun h=>?_) (fun h=>?_))))))
  ·refine Wp.skip (To.ah (Wp.seq ?_))
   obtain⟨o3,ho3,h⟩:=au h
   refine kw [1,2,4,6,7] [1,2,6] [(1,.own 1 0),(2,.own 2 0),(4,ls v4),(6,.own 6 0),(7,vi v7)] [(1,25,qc6 b1),(2,25,qc6 b2),(6,25,qc6 b6)] (EO n v4 v7 b1 b2 b6 o3 ho3 (To.ah (rg [1,2,4,5,6,7] [1,2,6] [(1,.own 1 0),(2,.own 2 0),(4,ls v4),(5,vb o3.1),(6,.own 6 0),(ex7 v7)] [(1,25,qc6 b1),(2,25,qc6 b2),(6,25,qc6 o3.2)] (kt [1,2,4,5,6,7] [1,2,6] [(1,.own 1 0),(2,.own 2 0),(4,ls v4),(5,vb o3.1),(6,.own 6 0),(ex7 v7)] [(1,25,qc6 b1),(2,25,qc6 b2),(6,25,qc6 o3.2)] (To.again ?_)))))
   exact ih o3.1 (IntKind.wrap .i64 (v7+1)) o3.2 _ h hQ
  ·refine Wp.exit (To.aK (To.aK (kt [2,5,6] [2,6] [(2,.own 2 0),(5,vb v5),(6,.own 6 0)] [(2,25,qc6 b2),(6,25,qc6 b6)] ?_)))
   cases h
   exact hQ
def sM(n:Nat)(a0:af):Option (af×Bool) :=
 (fM n a0).bind fun r1 =>
 (nN n r1.1 r1.2 (bif (a0.av==3) then(decide ((List.length a0.ak:Int)<=32)) else false) a0 (af.mk 0 [] [] [])).bind fun o2 =>
 (fA n o2.1 a0 (af.mk 0 [] [] []) n o2.2 0 (af.mk 0 [] [] [])).bind fun o3 =>
 (eO n o3.2 o3.1).bind fun r4 =>
 some (r4.1,r4.2)
theorem JB(n:Nat)(a0:af)(r:af×Bool)(h:sM n a0=some r):aJ Tryz.prog 74 [.agg (qc6 a0)] (.tup [.agg (qc6 r.1),vb r.2]):=by
 unfold sM at h
 refine xo Tryz.f74 rfl fun F0 w0 _=>?_
 refine Wp.seq (rg [1,2] [1,2] [(1,.own 1 0),(2,.own 2 0)] [(1,25,qc6 a0),(2,25,[vi 0,.str [],.val (.slice none 0 0),.val (.slice none 0 0)])] (To.ah (Wp.seq ?_)))
 obtain⟨r1,hr1,h⟩:=au h
 refine rc [] 1 [1,2,4,5] [1,2] [(1,.own 1 0),(2,.own 2 0),(4,ls r1.1),(5,vb r1.2)] [(1,25,qc6 a0),(2,25,[vi 0,.str [],.val (.slice none 0 0),.val (.slice none 0 0)])] (mT n a0 _ hr1) (To.ah (Wp.seq (Wp.seq (rg [1,2,4,5,24] [1,2] [(1,.own 1 0),(2,.own 2 0),(4,ls r1.1),(5,vb r1.2),(24,vb (Aa a0))] [(1,25,qc6 a0),(2,25,[vi 0,.str [],.val (.slice none 0 0),.val (.slice none 0 0)])] (To.ah ?_)))))
 obtain⟨o2,ho2,h⟩:=au h
 refine kw [1,2,4,5,24] [1,2] [(1,.own 1 0),(2,.own 2 0),(4,ls r1.1),(5,vb r1.2),(24,vb (Aa a0))] [(1,25,qc6 a0),(2,25,[vi 0,.str [],.val (.slice none 0 0),.val (.slice none 0 0)])] (Wp.weak (K':=[(1,.own 1 0),(2,.own 2 0),(4,ls r1.1),(5,vb r1.2),(24,vb (Aa a0))]) (L':=[(1,25,qc6 a0),(2,25,[vi 0,.str [],ls [],tn4 []])]) (.cons (.refl _) (.cons (.refl _) (.cons (.refl _) (.cons (.refl _) (.cons (.refl _) .nil))))) (.cons (.cons (.refl _) (.cons (.refl _) (.cons (.refl _) (.cons (.refl _) .nil)))) (.cons (.cons (.refl _) (.cons (.refl _) (.cons (.zero _ _) (.cons (.bu _ _ _) .nil)))) .nil)) (Eh n r1.1 r1.2 (Aa a0) a0 zx3 o2 ho2 (To.ah (Wp.seq (rg [1,2,4,5,6] [1,2,6] [(1,.own 1 0),(2,.own 2 0),(4,ls o2.1),(5,vb o2.2),(6,.own 6 0)] [(1,25,qc6 a0),(2,25,[vi 0,.str [],ls [],tn4 []]),(6,25,[vi 0,.str [],.val (.slice none 0 0),.val (.slice none 0 0)])] (To.ah (Wp.seq (Wp.seq (rg [1,2,4,5,6,7] [1,2,6] [(1,.own 1 0),(2,.own 2 0),(4,ls o2.1),(5,vb o2.2),(6,.own 6 0),(7,vi 0)] [(1,25,qc6 a0),(2,25,[vi 0,.str [],ls [],tn4 []]),(6,25,[vi 0,.str [],.val (.slice none 0 0),.val (.slice none 0 0)])] (To.ah (Wp.block ?_)))))))))))
 obtain⟨o3,ho3,h⟩:=au h
 refine kw [1,2,4,5,6,7] [1,2,6] [(1,.own 1 0),(2,.own 2 0),(4,ls o2.1),(5,vb o2.2),(6,.own 6 0),(7,vi 0)] [(1,25,qc6 a0),(2,25,[vi 0,.str [],ls [],tn4 []]),(6,25,[vi 0,.str [],.val (.slice none 0 0),.val (.slice none 0 0)])] (Wp.weak (K':=[(1,.own 1 0),(2,.own 2 0),(4,ls o2.1),(5,vb o2.2),(6,.own 6 0),(7,vi 0)]) (L':=[(1,25,qc6 a0),(2,25,[vi 0,.str [],ls [],tn4 []]),(6,25,[vi 0,.str [],ls [],tn4 []])]) (.cons (.refl _) (.cons (.refl _) (.cons (.refl _) (.cons (.refl _) (.cons (.refl _) (.cons (.refl _) .nil)))))) (.cons (.cons (.refl _) (.cons (.refl _) (.cons (.refl _) (.cons (.refl _) .nil)))) (.cons (.cons (.refl _) (.cons (.refl _) (.cons (.refl _) (.cons (.refl _) .nil)))) (.cons (.cons (.refl _) (.cons (.refl _) (.cons (.zero _ _) (.cons (.bu _ _ _) .nil)))) .nil))) (Wp.bE (E4 n o2.1 a0 zx3 n o2.2 0 zx3 o3 ho3 (To.aY (To.ah (Wp.seq ?_))))))
 obtain⟨r4,hr4,h⟩:=au h
 refine rc [] 2 [2,3] [2] [(2,.own 2 0),(3,vb r4.2)] [(2,25,qc6 r4.1)] (jK n o3.2 o3.1 _ hr4) (To.ah (Wp.ret ?_))
 cases h
 exact To.done hΓ (by kernel_rfl)
def lG(n:Nat)(v10:Bool)(b1:af)(b2:af):Option (af) :=
 if v10=true then(some (af.mk 3 [] ([lK]) [b1]))
 else some b1
theorem zn(n:Nat)(v10:Bool)(b1:af)(b2:af)(o:af)(h:lG n v10 b1 b2=some o)(hQ:To 56 F0 w0 [(1,.own 1 0),(2,.own 2 0)] [(1,25,qc6 o),(2,25,qc6 b2)] .normal Q):Wp Tryz.prog 56 F0 w0 [(1,.own 1 0),(2,.own 2 0),(10,vb v10)] [(1,25,qc6 b1),(2,25,qc6 b2)] (cB (cA (cB (cF Tryz.f75)))) Q:=by
 unfold lG at h
 refine cn h (fun h=>?_) (fun h=>?_)
 ·refine rr [] [(0,ls ([lK])),(2,rs8 [b1])] [] [1,2] [1,2,11,13] [(1,.own 1 0),(2,.own 2 0)] [(1,25,[vi 3,.str [],.row 11,.row 13]),(2,25,qc6 b2),(11,9,[rc1 ([lK])]),(13,25,[rc9 [b1]])] [(ck 1 [.str lK] 1 (ls ([lK]))/\aM (ls ([lK]))),(Ln b1)] (ai.cons (du (by kernel_rfl) rfl (by kernel_rfl) (aI _)) (ai.cons (du (by kernel_rfl) rfl (by kernel_rfl) (bg _)) ai.nil)) (kt [1,2] [1,2,11,13] [(1,.own 1 0),(2,.own 2 0)] [(1,25,[vi 3,.str [],.row 11,.row 13]),(2,25,qc6 b2),(11,9,[rc1 ([lK])]),(13,25,[rc9 [b1]])] (To.pre (St.settle (ks:=[11,13]) (kk:=[1,2]) (kl:=[1,2,11,13]) (K':=[(1,.own 1 0),(2,.own 2 0)]) (L':=[(1,25,[vi 3,.str [],.row 11,.row 13]),(2,25,qc6 b2),(11,9,[rc2 ([lK])]),(13,25,[iY [b1]])]) (by kernel_rfl)) (To.pre (St.uS [1] (L':=[(1,25,[vi 3,.str [],ls ([lK]),rs8 [b1]]),(2,25,qc6 b2),(11,9,[rc2 ([lK])]),(13,25,[iY [b1]])]) (by kernel_rfl)) (To.weak (K':=[(1,.own 1 0),(2,.own 2 0)]) (L':=[(1,25,[vi 3,.str [],ls ([lK]),tn4 [b1]]),(2,25,qc6 b2),(11,9,[rc2 ([lK])]),(13,25,[iY [b1]])]) (.cons (.refl _) (.cons (.refl _) .nil)) (.cons (.cons (.refl _) (.cons (.refl _) (.cons (.refl _) (.cons (.close _ _ _ _) .nil)))) (.cons (.cons (.refl _) (.cons (.refl _) (.cons (.refl _) (.cons (.refl _) .nil)))) (.cons (.cons (.refl _) .nil) (.cons (.cons (.refl _) .nil) .nil)))) (kt [1,2] [1,2] [(1,.own 1 0),(2,.own 2 0)] [(1,25,[vi 3,.str [],ls ([lK]),tn4 [b1]]),(2,25,qc6 b2)] ?_)))))
  cases h
  exact hQ
 ·refine Wp.skip (kt [1,2] [1,2] [(1,.own 1 0),(2,.own 2 0)] [(1,25,qc6 b1),(2,25,qc6 b2)] ?_)
  cases h
  exact hQ
def nP(n:Nat)(a0:af):Option (af×Bool) :=
 (lG n (a0.av==1) a0 (af.mk 0 [] [] [])).bind fun o1 =>
 (jI n o1 ([lK,vJ])).bind fun r2 =>
 if(!r2)=true then(some ((af.mk 0 [] [] []),false))
 else((eX n o1 lK []).bind fun r3 =>
 (eX n o1 vJ [120]).bind fun r4 =>
 ((if((bif (!r3.2) then true else(!r4.2))==false)=true then il n r3.1 else some false)).bind fun r5 =>
 aQ ((bif (bif (bif (bif (!r3.2) then true else(!r4.2)) then true else(!r5)) then true else(decide ((List.length r4.1:Int)<1))) then true else(decide ((List.length r4.1:Int)>64))):Bool) fun x6 =>
 if x6=true then(some ((af.mk 0 [] [] []),false))
 else((eO n o1 true).bind fun r7 =>
 some (r7.1,r7.2)))
theorem Eu(n:Nat)(a0:af)(r:af×Bool)(h:nP n a0=some r):aJ Tryz.prog 75 [.agg (qc6 a0)] (.tup [.agg (qc6 r.1),vb r.2]):=by
 unfold nP at h
 refine xo Tryz.f75 rfl fun F0 w0 _=>?_
 refine Wp.seq (rg [1,2] [1,2] [(1,.own 1 0),(2,.own 2 0)] [(1,25,qc6 a0),(2,25,[vi 0,.str [],.val (.slice none 0 0),.val (.slice none 0 0)])] (To.ah (Wp.seq (Wp.seq (rg [1,2,10] [1,2] [(1,.own 1 0),(2,.own 2 0),(10,vb (a0.av==1))] [(1,25,qc6 a0),(2,25,[vi 0,.str [],.val (.slice none 0 0),.val (.slice none 0 0)])] (To.ah ?_))))))
 obtain⟨o1,ho1,h⟩:=au h
 refine kw [1,2,10] [1,2] [(1,.own 1 0),(2,.own 2 0),(10,vb (a0.av==1))] [(1,25,qc6 a0),(2,25,[vi 0,.str [],.val (.slice none 0 0),.val (.slice none 0 0)])] (Wp.weak (K':=[(1,.own 1 0),(2,.own 2 0),(10,vb (a0.av==1))]) (L':=[(1,25,qc6 a0),(2,25,[vi 0,.str [],ls [],tn4 []])]) (.cons (.refl _) (.cons (.refl _) (.cons (.refl _) .nil))) (.cons (.cons (.refl _) (.cons (.refl _) (.cons (.refl _) (.cons (.refl _) .nil)))) (.cons (.cons (.refl _) (.cons (.refl _) (.cons (.zero _ _) (.cons (.bu _ _ _) .nil)))) .nil)) (zn n (a0.av==1) a0 zx3 o1 ho1 (To.ah (Wp.seq (Wp.seq ?_)))))
 obtain⟨r2,hr2,h⟩:=au h
 refine rr [(2,[16])] [(1,ls ([lK,vJ])),(2,vb r2)] [] [1,2,18] [1,2] [(1,.own 1 0),(2,.own 2 0),(18,vb (!r2))] [(1,25,qc6 o1),(2,25,[vi 0,.str [],ls [],tn4 []])] [(ck 1 [.str lK,.str vJ] 2 (ls ([lK,vJ]))/\aM (ls ([lK,vJ]))),_] (ai.cons (du (by kernel_rfl) rfl (by kernel_rfl) (aI _)) (ai.cons (c1 (oa n o1 ([lK,vJ]) _ hr2)) ai.nil)) (To.ah (cn h (fun h=>?_) (fun h=>?_)))
 ·refine Wp.seq (rg [2,3] [2] [(2,.own 2 0),(3,vb false)] [(2,25,[vi 0,.str [],.val (.slice none 0 0),.val (.slice none 0 0)])] (To.ah (Wp.ret (To.aA (To.weak (K':=[(2,.own 2 0),(3,vb false)]) (L':=[(2,25,[vi 0,.str [],ls [],tn4 []])]) (.cons (.refl _) (.cons (.refl _) .nil)) (.cons (.cons (.refl _) (.cons (.refl _) (.cons (.zero _ _) (.cons (.bu _ _ _) .nil)))) .nil) ?_)))))
  cases h
  exact To.done hΓ (by kernel_rfl)
 ·refine Wp.skip (To.ah (Wp.seq ?_))
  obtain⟨r3,hr3,h⟩:=au h
  refine rc [] 1 [1,2,4,5] [1,2] [(1,.own 1 0),(2,.own 2 0),(4,.str r3.1),(5,vb r3.2)] [(1,25,qc6 o1),(2,25,[vi 0,.str [],ls [],tn4 []])] (fH n o1 lK [] _ hr3) (To.ah (Wp.seq ?_))
  obtain⟨r4,hr4,h⟩:=au h
  refine rc [] 1 [1,2,4,5,6,7] [1,2] [(1,.own 1 0),(2,.own 2 0),(4,.str r3.1),(5,vb r3.2),(6,.str r4.1),(7,vb r4.2)] [(1,25,qc6 o1),(2,25,[vi 0,.str [],ls [],tn4 []])] (fH n o1 vJ [120] _ hr4) (To.ah (Wp.seq (Wp.seq ?_)))
  obtain⟨r5,hr5,h⟩:=au h
  obtain⟨x6,hx6,h⟩:=aS h
  refine rr [] [(8,vb r5)] [] [1,2,50] [1,2] [(1,.own 1 0),(2,.own 2 0),(50,vb (bif (bif (bif (bif (!r3.2) then true else(!r4.2)) then true else(!r5)) then true else(decide ((List.length r4.1:Int)<1))) then true else(decide ((List.length r4.1:Int)>64))))] [(1,25,qc6 o1),(2,25,[vi 0,.str [],ls [],tn4 []])] [(((bif (!r3.2) then true else(!r4.2))==false)=true->CX Tryz.prog 45 [.str r3.1] (vb r5))] (ai.cons (fun hg=>cx (jW n r3.1 _ (jB hg hr5))) ai.nil) (To.eq (K':=[(1,.own 1 0),(2,.own 2 0),(50,vb x6)]) (L':=[(1,25,qc6 o1),(2,25,[vi 0,.str [],ls [],tn4 []])]) (by cases hx6;rfl) (by cases hx6;rfl) (To.ah (cn h (fun h=>?_) (fun h=>?_))))
  ·refine Wp.seq (rg [2,3] [2] [(2,.own 2 0),(3,vb false)] [(2,25,[vi 0,.str [],.val (.slice none 0 0),.val (.slice none 0 0)])] (To.ah (Wp.ret (To.aA (To.weak (K':=[(2,.own 2 0),(3,vb false)]) (L':=[(2,25,[vi 0,.str [],ls [],tn4 []])]) (.cons (.refl _) (.cons (.refl _) .nil)) (.cons (.cons (.refl _) (.cons (.refl _) (.cons (.zero _ _) (.cons (.bu _ _ _) .nil)))) .nil) ?_)))))
   cases h
   exact To.done hΓ (by kernel_rfl)
  ·refine Wp.skip (To.ah (Wp.seq ?_))
   obtain⟨r7,hr7,h⟩:=au h
   refine rc [] 1 [2,3] [2] [(2,.own 2 0),(3,vb r7.2)] [(2,25,qc6 r7.1)] (jK n o1 true _ hr7) (To.ah (Wp.ret ?_))
   cases h
   exact To.done hΓ (by kernel_rfl)
def gx(n:Nat)(v0:Bs)(v3:Bs)(v4:Int)(v5:Int):Nat->Bool->Int->Option (Bool)
 |0,_,_=>none
 |k+1,v6,v7=>if(decide (v7<(List.length v3:Int)))=true then(if((!(v6==false)||decide (0<=v7/\v7<(List.length v3:Int))))=true then(gx n v0 v3 v4 v5 k (bif v6 then true else((((v3)[Int.toNat v7]?.getD 0).toNat:Int)==v5)) (IntKind.wrap .i64 (v7+1))) else none)
 else some v6
theorem EZ(n:Nat)(v0:Bs)(v3:Bs)(v4:Int)(v5:Int)(k:Nat):∀(v6:Bool)(v7:Int)(o:Bool),gx n v0 v3 v4 v5 k v6 v7=some o->To 58 F0 w0 [(0,.str v0),(3,.str v3),(4,vi v4),(6,vb o)] [] (.exit 2) Q->WL Tryz.prog 58 F0 w0 [(0,.str v0),(3,.str v3),(4,vi v4),(5,.val (.int .u8 v5)),(6,vb v6),(7,vi v7)] [] (cI (cI (cB (cA (cB (cB (cI (cA (cB (cI (cI (cB (cA (cB (cB (cF Tryz.f133)))))))))))))))) Q:=by
 induction k with
 |zero=>intro v6 v7 o h;cases h
 |succ k ih =>
  intro v6 v7 o h hQ
  rw[gx] at h
  refine WL.round (Wp.seq (Wp.seq (rg [0,3,4,5,6,7,42] [] [(0,.str v0),(3,.str v3),(4,vi v4),(5,.val (.int .u8 v5)),(6,vb v6),(7,vi v7),(42,vb (mj v7 v3))] [] (To.ah (cn h (fun h=>?_) (fun h=>?_))))))
  ·refine Wp.skip (To.ah (Wp.seq (Wp.block ?_)))
   obtain⟨hc2,h⟩:=ax h
   refine r0 [0,3,4,5,6,7] [] [(0,.str v0),(3,.str v3),(4,vi v4),(5,.val (.int .u8 v5)),(6,vb (bif v6 then true else((bK v3 v7)==v5))),(7,vi v7)] [] (ai.cons hc2 ai.nil) (To.aR (To.ah (rg [0,3,4,5,6,7] [] [(0,.str v0),(3,.str v3),(4,vi v4),(5,.val (.int .u8 v5)),(6,vb (bif v6 then true else((bK v3 v7)==v5))),(ex7 v7)] [] (kt [0,3,4,5,6,7] [] [(0,.str v0),(3,.str v3),(4,vi v4),(5,.val (.int .u8 v5)),(6,vb (bif v6 then true else((bK v3 v7)==v5))),(ex7 v7)] [] (To.again ?_)))))
   exact ih (bif v6 then true else((bK v3 v7)==v5)) (IntKind.wrap .i64 (v7+1)) _ h hQ
  ·refine Wp.exit (To.aK (To.aK (kt [0,3,4,6] [] [(0,.str v0),(3,.str v3),(4,vi v4),(6,vb v6)] [] ?_)))
   cases h
   exact hQ
def jM(n:Nat)(v0:Bs)(v3:Bs):Nat->Int->Option (Sum (Unit) (Bool))
 |0,_=>none
 |k+1,v4=>if(decide (v4<(List.length v0:Int)))=true then(if(decide (0<=v4/\v4<(List.length v0:Int)))=true then(aQ ((bif (bif (bif (decide ((((v0)[Int.toNat v4]?.getD 0).toNat:Int)>=97)) then(decide ((((v0)[Int.toNat v4]?.getD 0).toNat:Int)<=122)) else false) then true else(bif (decide ((((v0)[Int.toNat v4]?.getD 0).toNat:Int)>=65)) then(decide ((((v0)[Int.toNat v4]?.getD 0).toNat:Int)<=90)) else false)) then true else(bif (decide ((((v0)[Int.toNat v4]?.getD 0).toNat:Int)>=48)) then(decide ((((v0)[Int.toNat v4]?.getD 0).toNat:Int)<=57)) else false)):Bool) fun x1 =>
 (gx n v0 v3 v4 (((v0)[Int.toNat v4]?.getD 0).toNat:Int) n x1 0).bind fun o2 =>
 if(!o2)=true then(some (.inr false))
 else(jM n v0 v3 k (IntKind.wrap .i64 (v4+1)))) else none)
 else(some (.inl ()))
theorem EB(n:Nat)(v0:Bs)(v3:Bs)(k:Nat):∀(v4:Int)(o:Sum (Unit) (Bool)),jM n v0 v3 k v4=some o->(Sum.elim (fun s=>To 58 F0 w0 [(0,.str v0)] [] (.exit 0) Q) (fun s=>To 58 F0 w0 [(2,vb s)] [] .ret Q)) o->WL Tryz.prog 58 F0 w0 [(0,.str v0),(3,.str v3),(4,vi v4)] [] (cI (cI (cB (cA (cB (cB (cF Tryz.f133))))))) Q:=by
 induction k with
 |zero=>intro v4 o h;cases h
 |succ k ih =>
  intro v4 o h hQ
  rw[jM] at h
  refine WL.round (Wp.seq (Wp.seq (rg [0,3,4,11] [] [(0,.str v0),(3,.str v3),(4,vi v4),(11,vb (mj v4 v0))] [] (To.ah (cn h (fun h=>?_) (fun h=>?_))))))
  ·refine Wp.skip (To.ah (Wp.seq (Wp.block (Wp.seq ?_))))
   obtain⟨hc3,h⟩:=ax h
   refine r0 [0,3,4,5] [] [(0,.str v0),(3,.str v3),(4,vi v4),(5,.val (.int .u8 (bK v0 v4)))] [] (ai.cons hc3 ai.nil) (To.ah (Wp.seq ?_))
   obtain⟨x1,hx1,h⟩:=aS h
   refine rg [0,3,4,5,6] [] [(0,.str v0),(3,.str v3),(4,vi v4),(5,.val (.int .u8 (bK v0 v4))),(6,vb (bif (bif (bif (decide ((bK v0 v4)>=97)) then(decide ((bK v0 v4)<=122)) else false) then true else(bif (decide ((bK v0 v4)>=65)) then(decide ((bK v0 v4)<=90)) else false)) then true else(bif (decide ((bK v0 v4)>=48)) then(decide ((bK v0 v4)<=57)) else false)))] [] (To.eq (K':=[(0,.str v0),(3,.str v3),(4,vi v4),(5,.val (.int .u8 (bK v0 v4))),(6,vb x1)]) (L':=[]) (by cases hx1;rfl) (by cases hx1;rfl) (To.ah (Wp.seq (Wp.seq (rg [0,3,4,5,6,7] [] [(0,.str v0),(3,.str v3),(4,vi v4),(5,.val (.int .u8 (bK v0 v4))),(6,vb x1),(7,vi 0)] [] (To.ah (Wp.block ?_)))))))
   obtain⟨o2,ho2,h⟩:=au h
   refine kw [0,3,4,5,6,7] [] [(0,.str v0),(3,.str v3),(4,vi v4),(5,.val (.int .u8 (bK v0 v4))),(6,vb x1),(7,vi 0)] [] (Wp.bE (EZ n v0 v3 v4 (bK v0 v4) n x1 0 o2 ho2 (To.aY (To.ah (Wp.seq (rg [0,3,4,54] [] [(0,.str v0),(3,.str v3),(4,vi v4),(54,vb (!o2))] [] (To.ah (cn h (fun h=>?_) (fun h=>?_)))))))))
   ·refine Wp.seq (rg [2] [] [(2,vb false)] [] (To.ah (Wp.ret (To.aP (To.aA (To.aA ?_))))))
    cases h
    exact hQ
   ·refine Wp.skip (To.aR (To.ah (rg [0,3,4] [] [(0,.str v0),(3,.str v3),(lL v4)] [] (kt [0,3,4] [] [(0,.str v0),(3,.str v3),(lL v4)] [] (To.again ?_)))))
    exact ih (IntKind.wrap .i64 (v4+1)) _ h hQ
  ·refine Wp.exit (To.aK (To.aK (kt [0] [] [(0,.str v0)] [] ?_)))
   cases h
   exact hQ
def sN(n:Nat)(a0:Bs):Option (Bool) :=
 (jM n a0 oM n 0).bind fun o1 =>
 (Sum.elim (fun o1=>some (decide ((List.length a0:Int)>0))) (fun o1=>some o1)) o1
theorem Jw(n:Nat)(a0:Bs)(r:Bool)(h:sN n a0=some r):aJ Tryz.prog 133 [.str a0] (vb r):=by
 unfold sN at h
 refine xo Tryz.f133 rfl fun F0 w0 _=>?_
 refine Wp.seq (rg [0] [] [(0,.str a0)] [] (To.ah (Wp.seq (rg [0,3] [] [(0,.str a0),(3,.str oM)] [] (To.ah (Wp.seq (Wp.seq (rg [0,3,4] [] [(0,.str a0),(3,.str oM),(4,vi 0)] [] (To.ah (Wp.block ?_))))))))))
 obtain⟨o1,ho1,h⟩:=au h
 refine kw [0,3,4] [] [(0,.str a0),(3,.str oM),(4,vi 0)] [] (Wp.bE (EB n a0 oM n 0 o1 ho1 ?_))
 rcases o1 with o1|o1
 ·replace h:=cv h
  refine To.aY (To.ah (Wp.seq (rg [2] [] [(2,vb (decide ((List.length a0:Int)>0)))] [] (To.ah (Wp.ret ?_)))))
  cases h
  exact To.done hΓ (by kernel_rfl)
 ·replace h:=cy h
  refine To.aP (To.aA ?_)
  cases h
  exact To.done hΓ (by kernel_rfl)
def oq(n:Nat)(v0:Ls)(v3:Bs)(v4:Int)(v13:Bool):Option (Bs) :=
 if v13=true then(if(decide (((List.length v3+List.length ([32]:Bs):Nat):Int)<=9223372036854775807))=true then(some (v3++[32])) else none)
 else some v3
theorem DK(n:Nat)(v0:Ls)(v3:Bs)(v4:Int)(v13:Bool)(o:Bs)(h:oq n v0 v3 v4 v13=some o)(hQ:To 60 F0 w0 [(0,ls v0),(3,.str o),(4,vi v4)] [] .normal Q):Wp Tryz.prog 60 F0 w0 [(0,ls v0),(3,.str v3),(4,vi v4),(13,vb v13)] [] (cB (cA (cI (cA (cB (cI (cI (cB (cA (cB (cB (cF Tryz.f124)))))))))))) Q:=by
 unfold oq at h
 refine cn h (fun h=>?_) (fun h=>?_)
 ·obtain⟨hc1,h⟩:=ax h
  refine r0 [0,3,4] [] [(0,ls v0),(3,.str (v3++[32])),(4,vi v4)] [] (ai.cons hc1 ai.nil) (kt [0,3,4] [] [(0,ls v0),(3,.str (v3++[32])),(4,vi v4)] [] ?_)
  cases h
  exact hQ
 ·refine Wp.skip (kt [0,3,4] [] [(0,ls v0),(3,.str v3),(4,vi v4)] [] ?_)
  cases h
  exact hQ
def oh(n:Nat)(v0:Ls)(v3:Bs)(v4:Int)(v5:Int)(v44:Bool):Option (Bs) :=
 if v44=true then(if(decide (((List.length v3+List.length ([39,92,39]:Bs):Nat):Int)<=9223372036854775807))=true then(some (v3++[39,92,39])) else none)
 else some v3
theorem DI(n:Nat)(v0:Ls)(v3:Bs)(v4:Int)(v5:Int)(v44:Bool)(o:Bs)(h:oh n v0 v3 v4 v5 v44=some o)(hQ:To 60 F0 w0 [(0,ls v0),(3,.str o),(4,vi v4),(5,vi v5)] [] .normal Q):Wp Tryz.prog 60 F0 w0 [(0,ls v0),(3,.str v3),(4,vi v4),(5,vi v5),(44,vb v44)] [] (cB (cA (cI (cA (cB (cI (cI (cB (cA (cB (cB (cB (cI (cA (cB (cI (cI (cB (cA (cB (cB (cF Tryz.f124)))))))))))))))))))))) Q:=by
 unfold oh at h
 refine cn h (fun h=>?_) (fun h=>?_)
 ·obtain⟨hc5,h⟩:=ax h
  refine r0 [0,3,4,5] [] [(0,ls v0),(3,.str (v3++[39,92,39])),(4,vi v4),(5,vi v5)] [] (ai.cons hc5 ai.nil) (kt [0,3,4,5] [] [(0,ls v0),(3,.str (v3++[39,92,39])),(4,vi v4),(5,vi v5)] [] ?_)
  cases h
  exact hQ
 ·refine Wp.skip (kt [0,3,4,5] [] [(0,ls v0),(3,.str v3),(4,vi v4),(5,vi v5)] [] ?_)
  cases h
  exact hQ
def rq(n:Nat)(v0:Ls)(v3:Bs)(v4:Int)(v5:Int):Option (Bs) :=
 if(decide (0<=v4/\v4<(List.length v0:Int)))=true then(if(decide (0<=v5/\v5<(List.length ((v0)[Int.toNat v4]?.getD []):Int)))=true then((oh n v0 v3 v4 v5 ((((((v0)[Int.toNat v4]?.getD []))[Int.toNat v5]?.getD 0).toNat:Int)==39)).bind fun o5 =>
 if(decide (0<=v4/\v4<(List.length v0:Int)))=true then(if(decide (0<=(IntKind.wrap .i64 (v5+1))/\(IntKind.wrap .i64 (v5+1))<=(List.length ((v0)[Int.toNat v4]?.getD []):Int)))=true then(if(decide (0<=v5/\v5<=(IntKind.wrap .i64 (v5+1))))=true then(if(decide (((List.length o5+List.length (List.take (Int.toNat (IntKind.wrap .i64 (v5+1))-Int.toNat v5) (List.drop (Int.toNat v5) ((v0)[Int.toNat v4]?.getD []))):Nat):Int)<=9223372036854775807))=true then(aQ ((o5++(List.take (Int.toNat (IntKind.wrap .i64 (v5+1))-Int.toNat v5) (List.drop (Int.toNat v5) ((v0)[Int.toNat v4]?.getD [])))):Bs) fun x6 =>
 some x6) else none) else none) else none) else none) else none) else none
abbrev U8(x0:Int):=(Int.toNat (IntKind.wrap .i64 (x0+1))-Int.toNat x0)
theorem DZ(n:Nat)(v0:Ls)(v3:Bs)(v4:Int)(v5:Int)(o:Bs)(h:rq n v0 v3 v4 v5=some o)(hQ:To 60 F0 w0 [(0,ls v0),(3,.str o),(4,vi v4),(5,vi v5)] [] .normal Q):Wp Tryz.prog 60 F0 w0 [(0,ls v0),(3,.str v3),(4,vi v4),(5,vi v5)] [] (cA (cB (cI (cI (cB (cA (cB (cB (cB (cI (cA (cB (cI (cI (cB (cA (cB (cB (cF Tryz.f124))))))))))))))))))) Q:=by
 unfold rq at h
 refine Wp.block (Wp.seq (Wp.seq ?_))
 obtain⟨hc11,h⟩:=ax h
 obtain⟨hc12,h⟩:=ax h
 refine r0 [0,3,4,5,44] [] [(0,ls v0),(3,.str v3),(4,vi v4),(5,vi v5),(44,vb ((((((v0)[Int.toNat v4]?.getD []))[Int.toNat v5]?.getD 0).toNat:Int)==39))] [] (ai.cons hc11 (ai.cons hc12 ai.nil)) (To.ah ?_)
 obtain⟨o5,ho5,h⟩:=au h
 refine kw [0,3,4,5,44] [] [(0,ls v0),(3,.str v3),(4,vi v4),(5,vi v5),(44,vb ((((((v0)[Int.toNat v4]?.getD []))[Int.toNat v5]?.getD 0).toNat:Int)==39))] [] (DI n v0 v3 v4 v5 ((((((v0)[Int.toNat v4]?.getD []))[Int.toNat v5]?.getD 0).toNat:Int)==39) o5 ho5 (To.ah ?_))
 obtain⟨hc7,h⟩:=ax h
 obtain⟨hc8,h⟩:=ax h
 obtain⟨hc9,h⟩:=ax h
 obtain⟨hc10,h⟩:=ax h
 obtain⟨x6,hx6,h⟩:=aS h
 refine r0 [0,3,4,5] [] [(0,ls v0),(3,.str (o5++(List.take (U8 v5) (List.drop (Int.toNat v5) ((v0)[Int.toNat v4]?.getD []))))),(4,vi v4),(5,vi v5)] [] (ai.cons hc7 (ai.cons hc8 (ai.cons hc9 (ai.cons hc10 ai.nil)))) (To.eq (K':=[(0,ls v0),(3,.str x6),(4,vi v4),(5,vi v5)]) (L':=[]) (by cases hx6;rfl) (by cases hx6;rfl) (To.aR (kt [0,3,4,5] [] [(0,ls v0),(3,.str x6),(4,vi v4),(5,vi v5)] [] ?_)))
 cases h
 exact hQ
def gw(n:Nat)(v0:Ls)(v4:Int):Nat->Bs->Int->Option (Bs)
 |0,_,_=>none
 |k+1,v3,v5=>if(decide (0<=v4/\v4<(List.length v0:Int)))=true then(if(decide (v5<(List.length ((v0)[Int.toNat v4]?.getD []):Int)))=true then((rq n v0 v3 v4 v5).bind fun o5 =>
 gw n v0 v4 k o5 (IntKind.wrap .i64 (v5+1)))
 else some v3) else none
theorem Ek(n:Nat)(v0:Ls)(v4:Int)(k:Nat):∀(v3:Bs)(v5:Int)(o:Bs),gw n v0 v4 k v3 v5=some o->To 60 F0 w0 [(0,ls v0),(3,.str o),(4,vi v4)] [] (.exit 2) Q->WL Tryz.prog 60 F0 w0 [(0,ls v0),(3,.str v3),(4,vi v4),(5,vi v5)] [] (cI (cI (cB (cA (cB (cB (cB (cI (cA (cB (cI (cI (cB (cA (cB (cB (cF Tryz.f124))))))))))))))))) Q:=by
 induction k with
 |zero=>intro v3 v5 o h;cases h
 |succ k ih =>
  intro v3 v5 o h hQ
  rw[gw] at h
  refine WL.round (Wp.seq (Wp.seq ?_))
  obtain⟨hc6,h⟩:=ax h
  refine r0 [0,3,4,5,35] [] [(0,ls v0),(3,.str v3),(4,vi v4),(5,vi v5),(35,vb (decide (v5<(H7 v0 v4))))] [] (ai.cons hc6 ai.nil) (To.ah (cn h (fun h=>?_) (fun h=>?_)))
  ·refine Wp.skip (To.ah (Wp.seq ?_))
   obtain⟨o5,ho5,h⟩:=au h
   refine kw [0,3,4,5] [] [(0,ls v0),(3,.str v3),(4,vi v4),(5,vi v5)] [] (DZ n v0 v3 v4 v5 o5 ho5 (To.ah (rg [0,3,4,5] [] [(0,ls v0),(3,.str o5),(4,vi v4),(ex3 v5)] [] (kt [0,3,4,5] [] [(0,ls v0),(3,.str o5),(4,vi v4),(ex3 v5)] [] (To.again ?_)))))
   exact ih o5 (IntKind.wrap .i64 (v5+1)) _ h hQ
  ·refine Wp.exit (To.aK (To.aK (kt [0,3,4] [] [(0,ls v0),(3,.str v3),(4,vi v4)] [] ?_)))
   cases h
   exact hQ
def qU(n:Nat)(v0:Ls)(v3:Bs)(v4:Int):Option (Bs) :=
 (oq n v0 v3 v4 (decide (v4>0))).bind fun o1 =>
 if(decide (0<=v4/\v4<(List.length v0:Int)))=true then((sN n ((v0)[Int.toNat v4]?.getD [])).bind fun r2 =>
 if r2=true then(if(decide (0<=v4/\v4<(List.length v0:Int)))=true then(if(decide (((List.length o1+List.length ((v0)[Int.toNat v4]?.getD []):Nat):Int)<=9223372036854775807))=true then(some (o1++((v0)[Int.toNat v4]?.getD []))) else none) else none)
 else(if(decide (((List.length o1+List.length ([39]:Bs):Nat):Int)<=9223372036854775807))=true then((gw n v0 v4 n (o1++[39]) 0).bind fun o5 =>
 if(decide (((List.length o5+List.length ([39]:Bs):Nat):Int)<=9223372036854775807))=true then(some (o5++[39])) else none) else none)) else none
theorem EX(n:Nat)(v0:Ls)(v3:Bs)(v4:Int)(o:Bs)(h:qU n v0 v3 v4=some o)(hQ:To 60 F0 w0 [(0,ls v0),(3,.str o),(4,vi v4)] [] .normal Q):Wp Tryz.prog 60 F0 w0 [(0,ls v0),(3,.str v3),(4,vi v4)] [] (cA (cB (cI (cI (cB (cA (cB (cB (cF Tryz.f124))))))))) Q:=by
 unfold qU at h
 refine Wp.block (Wp.seq (Wp.seq (rg [0,3,4,13] [] [(0,ls v0),(3,.str v3),(4,vi v4),(13,vb (decide (v4>0)))] [] (To.ah ?_))))
 obtain⟨o1,ho1,h⟩:=au h
 refine kw [0,3,4,13] [] [(0,ls v0),(3,.str v3),(4,vi v4),(13,vb (decide (v4>0)))] [] (DK n v0 v3 v4 (decide (v4>0)) o1 ho1 (To.ah (Wp.seq (Wp.seq ?_))))
 obtain⟨hc8,h⟩:=ax h
 obtain⟨r2,hr2,h⟩:=au h
 refine rr [] [(4,vb r2)] [] [0,3,4,20] [] [(0,ls v0),(3,.str o1),(4,vi v4),(20,vb r2)] [] [_,_] (ai.cons hc8 (ai.cons (c1 (Jw n ((v0)[Int.toNat v4]?.getD []) _ hr2)) ai.nil)) (To.ah (cn h (fun h=>?_) (fun h=>?_)))
 ·refine Wp.seq ?_
  obtain⟨hc3,h⟩:=ax h
  obtain⟨hc4,h⟩:=ax h
  refine r0 [0,3,4] [] [(0,ls v0),(3,.str (o1++((v0)[Int.toNat v4]?.getD []))),(4,vi v4)] [] (ai.cons hc3 (ai.cons hc4 ai.nil)) (To.ah (Wp.exit (To.aK (To.aY ?_))))
  cases h
  exact hQ
 ·refine Wp.skip (To.ah (Wp.seq ?_))
  obtain⟨hc7,h⟩:=ax h
  refine r0 [0,3,4] [] [(0,ls v0),(3,.str (o1++[39])),(4,vi v4)] [] (ai.cons hc7 ai.nil) (To.ah (Wp.seq (Wp.seq (rg [0,3,4,5] [] [(0,ls v0),(3,.str (o1++[39])),(4,vi v4),(5,vi 0)] [] (To.ah (Wp.block ?_))))))
  obtain⟨o5,ho5,h⟩:=au h
  refine kw [0,3,4,5] [] [(0,ls v0),(3,.str (o1++[39])),(4,vi v4),(5,vi 0)] [] (Wp.bE (Ek n v0 v4 n (o1++[39]) 0 o5 ho5 (To.aY (To.ah ?_))))
  obtain⟨hc6,h⟩:=ax h
  refine r0 [0,3,4] [] [(0,ls v0),(3,.str (o5++[39])),(4,vi v4)] [] (ai.cons hc6 ai.nil) (To.aR ?_)
  cases h
  exact hQ
def gy(n:Nat)(v0:Ls):Nat->Bs->Int->Option (Bs)
 |0,_,_=>none
 |k+1,v3,v4=>if(decide (v4<(List.length v0:Int)))=true then((qU n v0 v3 v4).bind fun o1 =>
 gy n v0 k o1 (IntKind.wrap .i64 (v4+1)))
 else some v3
theorem EK(n:Nat)(v0:Ls)(k:Nat):∀(v3:Bs)(v4:Int)(o:Bs),gy n v0 k v3 v4=some o->To 60 F0 w0 [(3,.str o)] [] (.exit 0) Q->WL Tryz.prog 60 F0 w0 [(0,ls v0),(3,.str v3),(4,vi v4)] [] (cI (cI (cB (cA (cB (cB (cF Tryz.f124))))))) Q:=by
 induction k with
 |zero=>intro v3 v4 o h;cases h
 |succ k ih =>
  intro v3 v4 o h hQ
  rw[gy] at h
  refine WL.round (Wp.seq (Wp.seq (rg [0,3,4,9] [] [(0,ls v0),(3,.str v3),(4,vi v4),(9,vb (ex4 v4 v0))] [] (To.ah (cn h (fun h=>?_) (fun h=>?_))))))
  ·refine Wp.skip (To.ah (Wp.seq ?_))
   obtain⟨o1,ho1,h⟩:=au h
   refine kw [0,3,4] [] [(0,ls v0),(3,.str v3),(4,vi v4)] [] (EX n v0 v3 v4 o1 ho1 (To.ah (rg [0,3,4] [] [(0,ls v0),(3,.str o1),(lL v4)] [] (kt [0,3,4] [] [(0,ls v0),(3,.str o1),(lL v4)] [] (To.again ?_)))))
   exact ih o1 (IntKind.wrap .i64 (v4+1)) _ h hQ
  ·refine Wp.exit (To.aK (To.aK (kt [3] [] [(3,.str v3)] [] ?_)))
   cases h
   exact hQ
def tH(n:Nat)(a0:Ls):Option (Bs) :=
 (gy n a0 n [] 0).bind fun o1 =>
 some o1
theorem Jt(n:Nat)(a0:Ls)(r:Bs)(h:tH n a0=some r):aJ Tryz.prog 124 [ls a0] (.str r):=by
 unfold tH at h
 refine xo Tryz.f124 rfl fun F0 w0 _=>?_
 refine Wp.seq (rg [0] [] [(0,ls a0)] [] (To.ah (Wp.seq (rg [0,3] [] [(0,ls a0),(3,.str [])] [] (To.ah (Wp.seq (Wp.seq (rg [0,3,4] [] [(0,ls a0),(3,.str []),(4,vi 0)] [] (To.ah (Wp.block ?_))))))))))
 obtain⟨o1,ho1,h⟩:=au h
 refine kw [0,3,4] [] [(0,ls a0),(3,.str []),(4,vi 0)] [] (Wp.bE (EK n a0 n [] 0 o1 ho1 (To.aY (To.ah (Wp.seq (rg [2] [] [(2,.str o1)] [] (To.ah (Wp.ret ?_))))))))
 cases h
 exact To.done hΓ (by kernel_rfl)
def tP(n:Nat)(a0:af):Option (Bs×Int) :=
 if(a0.av==1)=true then(some (a0.aC,1))
 else((fM n a0).bind fun r1 =>
 if(bif (!r1.2) then true else((List.length r1.1:Int)==0))=true then(some ([],0))
 else(if(decide (0<=(0:Int)/\(0:Int)<(List.length r1.1:Int)))=true then(if(bif (((r1.1)[Int.toNat 0]?.getD [])==[78,79,78,69]) then((List.length r1.1:Int)==1) else false)=true then(some ([],2))
 else(if(decide (0<=(0:Int)/\(0:Int)<(List.length r1.1:Int)))=true then(aQ ((bif (((r1.1)[Int.toNat 0]?.getD [])==[67,77,68,45,83,72,69,76,76]) then((List.length r1.1:Int)==2) else false):Bool) fun x2 =>
 if x2=true then(if(decide (0<=(1:Int)/\(1:Int)<(List.length r1.1:Int)))=true then(some (((r1.1)[Int.toNat 1]?.getD []),1)) else none)
 else(if(decide (0<=(0:Int)/\(0:Int)<(List.length r1.1:Int)))=true then(if(bif (((r1.1)[Int.toNat 0]?.getD [])==[67,77,68]) then(decide ((List.length r1.1:Int)>1)) else false)=true then(if(decide (0<=(1:Int)/\(1:Int)<=(List.length r1.1:Int)))=true then((tH n (List.drop (Int.toNat 1) r1.1)).bind fun r4 =>
 some (r4,1)) else none)
 else(some ([],0))) else none)) else none)) else none))
theorem JA(n:Nat)(a0:af)(r:Bs×Int)(h:tP n a0=some r):aJ Tryz.prog 103 [.agg (qc6 a0)] (.tup [.str r.1,vi r.2]):=by
 unfold tP at h
 refine xo Tryz.f103 rfl fun F0 w0 _=>?_
 refine Wp.seq (rg [1] [1] [(1,.own 1 0)] [(1,25,qc6 a0)] (To.ah (Wp.seq (Wp.seq (rg [1,8] [1] [(1,.own 1 0),(8,vb (a0.av==1))] [(1,25,qc6 a0)] (To.ah (cn h (fun h=>?_) (fun h=>?_))))))))
 ·refine Wp.seq (rg [2,3] [] [(2,.str a0.aC),(3,vi 1)] [] (To.ah (Wp.ret (To.aA ?_))))
  cases h
  exact To.done hΓ (by kernel_rfl)
 ·refine Wp.skip (To.ah (Wp.seq ?_))
  obtain⟨r1,hr1,h⟩:=au h
  refine rc [] 1 [4,5] [] [(4,ls r1.1),(5,vb r1.2)] [] (mT n a0 _ hr1) (To.ah (Wp.seq (Wp.seq (rg [4,22] [] [(4,ls r1.1),(22,vb (bif (!r1.2) then true else((List.length r1.1:Int)==0)))] [] (To.ah (cn h (fun h=>?_) (fun h=>?_)))))))
  ·refine Wp.seq (rg [2,3] [] [(2,.str []),(3,vi 0)] [] (To.ah (Wp.ret (To.aA ?_))))
   cases h
   exact To.done hΓ (by kernel_rfl)
  ·refine Wp.skip (To.ah (Wp.seq (Wp.seq ?_)))
   obtain⟨hc8,h⟩:=ax h
   refine r0 [4,31] [] [(4,ls r1.1),(31,vb (bif (((r1.1)[Int.toNat 0]?.getD [])==[78,79,78,69]) then((List.length r1.1:Int)==1) else false))] [] (ai.cons hc8 ai.nil) (To.ah (cn h (fun h=>?_) (fun h=>?_)))
   ·refine Wp.seq (rg [2,3] [] [(2,.str []),(3,vi 2)] [] (To.ah (Wp.ret (To.aA ?_))))
    cases h
    exact To.done hΓ (by kernel_rfl)
   ·refine Wp.skip (To.ah (Wp.seq (Wp.seq ?_)))
    obtain⟨hc7,h⟩:=ax h
    obtain⟨x2,hx2,h⟩:=aS h
    refine r0 [4,40] [] [(4,ls r1.1),(40,vb (bif (((r1.1)[Int.toNat 0]?.getD [])==[67,77,68,45,83,72,69,76,76]) then((List.length r1.1:Int)==2) else false))] [] (ai.cons hc7 ai.nil) (To.eq (K':=[(4,ls r1.1),(40,vb x2)]) (L':=[]) (by cases hx2;rfl) (by cases hx2;rfl) (To.ah (cn h (fun h=>?_) (fun h=>?_))))
    ·refine Wp.seq ?_
     obtain⟨hc3,h⟩:=ax h
     refine r0 [2,3] [] [(2,.str ((r1.1)[Int.toNat 1]?.getD [])),(3,vi 1)] [] (ai.cons hc3 ai.nil) (To.ah (Wp.ret (To.aA ?_)))
     cases h
     exact To.done hΓ (by kernel_rfl)
    ·refine Wp.skip (To.ah (Wp.seq (Wp.seq ?_)))
     obtain⟨hc6,h⟩:=ax h
     refine r0 [4,52] [] [(4,ls r1.1),(52,vb (bif (((r1.1)[Int.toNat 0]?.getD [])==[67,77,68]) then(decide ((List.length r1.1:Int)>1)) else false))] [] (ai.cons hc6 ai.nil) (To.ah (cn h (fun h=>?_) (fun h=>?_)))
     ·refine Wp.seq ?_
      obtain⟨hc5,h⟩:=ax h
      obtain⟨r4,hr4,h⟩:=au h
      refine rr [] [(2,.str r4)] [] [2,3] [] [(2,.str r4),(3,vi 1)] [] [_,_] (ai.cons hc5 (ai.cons (c1 (Jt n (List.drop (Int.toNat 1) r1.1) _ hr4)) ai.nil)) (To.ah (Wp.ret (To.aA ?_)))
      cases h
      exact To.done hΓ (by kernel_rfl)
     ·refine Wp.skip (To.ah (Wp.seq (rg [2,3] [] [(2,.str []),(3,vi 0)] [] (To.ah (Wp.ret ?_)))))
      cases h
      exact To.done hΓ (by kernel_rfl)
def vu:Int->List D:=fun x=>[.val (.int .i64 x)]
theorem sF(l:List (Int)):aM (.recs 0 vu l):=⟨Nat.le_of_ble_eq_true (by kernel_rfl),fun _=>⟨rfl,rfl⟩⟩
def jd(n:Nat)(v0:Bs):Nat->Int->Option (Int)
 |0,_=>none
 |k+1,v6=>if((!((decide (v6<(List.length v0:Int)))==true)||decide (0<=v6/\v6<(List.length v0:Int))))=true then(if((!((bif (decide (v6<(List.length v0:Int))) then(decide ((((v0)[Int.toNat v6]?.getD 0).toNat:Int)>=48)) else false)==true)||decide (0<=v6/\v6<(List.length v0:Int))))=true then(aQ ((bif (bif (decide (v6<(List.length v0:Int))) then(decide ((((v0)[Int.toNat v6]?.getD 0).toNat:Int)>=48)) else false) then(decide ((((v0)[Int.toNat v6]?.getD 0).toNat:Int)<=57)) else false):Bool) fun x1 =>
 if x1=true then(jd n v0 k (IntKind.wrap .i64 (v6+1)))
 else some v6) else none) else none
theorem CY(n:Nat)(v0:Bs)(k:Nat):∀(v6:Int)(o:Int),jd n v0 k v6=some o->To 90 F0 w0 [(0,.str v0),(6,vi o)] [] (.exit 0) Q->WL Tryz.prog 90 F0 w0 [(0,.str v0),(6,vi v6)] [] (cI (cI (cA (cB (cB (cF Tryz.f134)))))) Q:=by
 induction k with
 |zero=>intro v6 o h;cases h
 |succ k ih =>
  intro v6 o h hQ
  rw[jd] at h
  refine WL.round (Wp.seq (Wp.seq ?_))
  obtain⟨hc2,h⟩:=ax h
  obtain⟨hc3,h⟩:=ax h
  obtain⟨x1,hx1,h⟩:=aS h
  refine r0 [0,6,24] [] [(0,.str v0),(6,vi v6),(24,vb (bif (Uw v6 v0) then(decide ((bK v0 v6)<=57)) else false))] [] (ai.cons hc2 (ai.cons hc3 ai.nil)) (To.eq (K':=[(0,.str v0),(6,vi v6),(24,vb x1)]) (L':=[]) (by cases hx1;rfl) (by cases hx1;rfl) (To.ah (cn h (fun h=>?_) (fun h=>?_))))
  ·refine Wp.skip (To.ah (Wp.block (rg [0,6] [] [(0,.str v0),(tZ v6)] [] (To.aR (To.again ?_)))))
   exact ih (IntKind.wrap .i64 (v6+1)) _ h hQ
  ·refine Wp.exit (To.aK (To.aK (kt [0,6] [] [(0,.str v0),(6,vi v6)] [] ?_)))
   cases h
   exact hQ
def qB(n:Nat)(a0:Bs):Option (Bs×Int×Bs×Bool) :=
 (jd n a0 n 0).bind fun o1 =>
 if(decide (0<=o1/\o1<=(List.length a0:Int)))=true then(if((!((decide ((List.length (List.drop (Int.toNat o1) a0):Int)>=2))==true)||decide (0<=(0:Int)/\(0:Int)<(List.length (List.drop (Int.toNat o1) a0):Int))))=true then(if((!((bif (decide ((List.length (List.drop (Int.toNat o1) a0):Int)>=2)) then(((((List.drop (Int.toNat o1) a0))[Int.toNat 0]?.getD 0).toNat:Int)==109) else false)==true)||decide (0<=(1:Int)/\(1:Int)<(List.length (List.drop (Int.toNat o1) a0):Int))))=true then(aQ ((bif (bif (decide ((List.length (List.drop (Int.toNat o1) a0):Int)>=2)) then(((((List.drop (Int.toNat o1) a0))[Int.toNat 0]?.getD 0).toNat:Int)==109) else false) then(((((List.drop (Int.toNat o1) a0))[Int.toNat 1]?.getD 0).toNat:Int)==115) else false):Bool) fun x2 =>
 if x2=true then(if(decide (0<=(2:Int)/\(2:Int)<=(List.length (List.drop (Int.toNat o1) a0):Int)))=true then((fO n (List.take (Int.toNat o1) a0)).bind fun r3 =>
 some ((List.take (Int.toNat o1) a0),3,(List.drop (Int.toNat 2) (List.drop (Int.toNat o1) a0)),r3)) else none)
 else(if((!((decide ((List.length (List.drop (Int.toNat o1) a0):Int)>=1))==true)||decide (0<=(0:Int)/\(0:Int)<(List.length (List.drop (Int.toNat o1) a0):Int))))=true then(aQ ((bif (decide ((List.length (List.drop (Int.toNat o1) a0):Int)>=1)) then(((((List.drop (Int.toNat o1) a0))[Int.toNat 0]?.getD 0).toNat:Int)==104) else false):Bool) fun x5 =>
 if x5=true then(if(decide (0<=(1:Int)/\(1:Int)<=(List.length (List.drop (Int.toNat o1) a0):Int)))=true then((fO n (List.take (Int.toNat o1) a0)).bind fun r6 =>
 some ((List.take (Int.toNat o1) a0),0,(List.drop (Int.toNat 1) (List.drop (Int.toNat o1) a0)),r6)) else none)
 else(if((!((decide ((List.length (List.drop (Int.toNat o1) a0):Int)>=1))==true)||decide (0<=(0:Int)/\(0:Int)<(List.length (List.drop (Int.toNat o1) a0):Int))))=true then(aQ ((bif (decide ((List.length (List.drop (Int.toNat o1) a0):Int)>=1)) then(((((List.drop (Int.toNat o1) a0))[Int.toNat 0]?.getD 0).toNat:Int)==109) else false):Bool) fun x8 =>
 if x8=true then(if(decide (0<=(1:Int)/\(1:Int)<=(List.length (List.drop (Int.toNat o1) a0):Int)))=true then((fO n (List.take (Int.toNat o1) a0)).bind fun r9 =>
 some ((List.take (Int.toNat o1) a0),1,(List.drop (Int.toNat 1) (List.drop (Int.toNat o1) a0)),r9)) else none)
 else(if((!((decide ((List.length (List.drop (Int.toNat o1) a0):Int)>=1))==true)||decide (0<=(0:Int)/\(0:Int)<(List.length (List.drop (Int.toNat o1) a0):Int))))=true then(aQ ((bif (decide ((List.length (List.drop (Int.toNat o1) a0):Int)>=1)) then(((((List.drop (Int.toNat o1) a0))[Int.toNat 0]?.getD 0).toNat:Int)==115) else false):Bool) fun x11 =>
 if x11=true then(if(decide (0<=(1:Int)/\(1:Int)<=(List.length (List.drop (Int.toNat o1) a0):Int)))=true then((fO n (List.take (Int.toNat o1) a0)).bind fun r12 =>
 some ((List.take (Int.toNat o1) a0),2,(List.drop (Int.toNat 1) (List.drop (Int.toNat o1) a0)),r12)) else none)
 else(some ([],0,[],false))) else none)) else none)) else none)) else none) else none) else none
theorem Ix(n:Nat)(a0:Bs)(r:Bs×Int×Bs×Bool)(h:qB n a0=some r):aJ Tryz.prog 134 [.str a0] (.tup [.str r.1,vi r.2.1,.str r.2.2.1,vb r.2.2.2]):=by
 unfold qB at h
 refine xo Tryz.f134 rfl fun F0 w0 _=>?_
 refine Wp.seq (rg [0] [] [(0,.str a0)] [] (To.ah (Wp.seq (rg [0,6] [] [(0,.str a0),(6,vi 0)] [] (To.ah (Wp.seq (Wp.block ?_)))))))
 obtain⟨o1,ho1,h⟩:=au h
 refine kw [0,6] [] [(0,.str a0),(6,vi 0)] [] (Wp.bE (CY n a0 n 0 o1 ho1 (To.aY (To.ah (Wp.seq ?_)))))
 obtain⟨hc19,h⟩:=ax h
 refine Wp.bI hm hΓ [] [7,8] [] (K':=[(7,.str (List.take (Int.toNat o1) a0)),(8,.str (List.drop (Int.toNat o1) a0))]) (L':=[]) (ob:=[(decide (0<=o1/\o1<=(List.length a0:Int)))=true,(decide (0<=o1/\o1<=(List.length a0:Int)))=true]) (by kernel_rfl) (ai.cons hc19 (ai.cons hc19 ai.nil)) (To.ah (Wp.seq (Wp.seq ?_)))
 obtain⟨hc17,h⟩:=ax h
 obtain⟨hc18,h⟩:=ax h
 obtain⟨x2,hx2,h⟩:=aS h
 refine r0 [7,8,45] [] [(7,.str (List.take (Int.toNat o1) a0)),(8,.str (List.drop (Int.toNat o1) a0)),(45,vb (bif (bif (decide ((List.length (List.drop (Int.toNat o1) a0):Int)>=2)) then(((((List.drop (Int.toNat o1) a0))[Int.toNat 0]?.getD 0).toNat:Int)==109) else false) then(((((List.drop (Int.toNat o1) a0))[Int.toNat 1]?.getD 0).toNat:Int)==115) else false))] [] (ai.cons hc17 (ai.cons hc18 ai.nil)) (To.eq (K':=[(7,.str (List.take (Int.toNat o1) a0)),(8,.str (List.drop (Int.toNat o1) a0)),(45,vb x2)]) (L':=[]) (by cases hx2;rfl) (by cases hx2;rfl) (To.ah (cn h (fun h=>?_) (fun h=>?_))))
 ·refine Wp.seq ?_
  obtain⟨hc4,h⟩:=ax h
  obtain⟨r3,hr3,h⟩:=au h
  refine Wp.bI hm hΓ [(4,vb r3)] [2,3,4,5] [] (K':=[(2,.str (List.take (Int.toNat o1) a0)),(3,vi 3),(4,.str (List.drop (Int.toNat 2) (List.drop (Int.toNat o1) a0))),(5,vb r3)]) (L':=[]) (ob:=[(decide (0<=(2:Int)/\(2:Int)<=(List.length (List.drop (Int.toNat o1) a0):Int)))=true,(true=true->CX Tryz.prog 113 [.str (List.take (Int.toNat o1) a0)] (vb r3))]) (by kernel_rfl) (ai.cons hc4 (ai.cons (fun _=>cx (jT n (List.take (Int.toNat o1) a0) _ hr3)) ai.nil)) (To.ah (Wp.ret (To.aA ?_)))
  cases h
  exact To.done hΓ (by kernel_rfl)
 ·refine Wp.skip (To.ah (Wp.seq (Wp.seq ?_)))
  obtain⟨hc16,h⟩:=ax h
  obtain⟨x5,hx5,h⟩:=aS h
  refine r0 [7,8,58] [] [(7,.str (List.take (Int.toNat o1) a0)),(8,.str (List.drop (Int.toNat o1) a0)),(58,vb (bif (decide ((List.length (List.drop (Int.toNat o1) a0):Int)>=1)) then(((((List.drop (Int.toNat o1) a0))[Int.toNat 0]?.getD 0).toNat:Int)==104) else false))] [] (ai.cons hc16 ai.nil) (To.eq (K':=[(7,.str (List.take (Int.toNat o1) a0)),(8,.str (List.drop (Int.toNat o1) a0)),(58,vb x5)]) (L':=[]) (by cases hx5;rfl) (by cases hx5;rfl) (To.ah (cn h (fun h=>?_) (fun h=>?_))))
  ·refine Wp.seq ?_
   obtain⟨hc7,h⟩:=ax h
   obtain⟨r6,hr6,h⟩:=au h
   refine Wp.bI hm hΓ [(4,vb r6)] [2,3,4,5] [] (K':=[(2,.str (List.take (Int.toNat o1) a0)),(3,vi 0),(4,.str (List.drop (Int.toNat 1) (List.drop (Int.toNat o1) a0))),(5,vb r6)]) (L':=[]) (ob:=[(decide (0<=(1:Int)/\(1:Int)<=(List.length (List.drop (Int.toNat o1) a0):Int)))=true,(true=true->CX Tryz.prog 113 [.str (List.take (Int.toNat o1) a0)] (vb r6))]) (by kernel_rfl) (ai.cons hc7 (ai.cons (fun _=>cx (jT n (List.take (Int.toNat o1) a0) _ hr6)) ai.nil)) (To.ah (Wp.ret (To.aA ?_)))
   cases h
   exact To.done hΓ (by kernel_rfl)
  ·refine Wp.skip (To.ah (Wp.seq (Wp.seq ?_)))
   obtain⟨hc15,h⟩:=ax h
   obtain⟨x8,hx8,h⟩:=aS h
   refine r0 [7,8,71] [] [(7,.str (List.take (Int.toNat o1) a0)),(8,.str (List.drop (Int.toNat o1) a0)),(71,vb (bif (decide ((List.length (List.drop (Int.toNat o1) a0):Int)>=1)) then(((((List.drop (Int.toNat o1) a0))[Int.toNat 0]?.getD 0).toNat:Int)==109) else false))] [] (ai.cons hc15 ai.nil) (To.eq (K':=[(7,.str (List.take (Int.toNat o1) a0)),(8,.str (List.drop (Int.toNat o1) a0)),(71,vb x8)]) (L':=[]) (by cases hx8;rfl) (by cases hx8;rfl) (To.ah (cn h (fun h=>?_) (fun h=>?_))))
   ·refine Wp.seq ?_
    obtain⟨hc10,h⟩:=ax h
    obtain⟨r9,hr9,h⟩:=au h
    refine Wp.bI hm hΓ [(4,vb r9)] [2,3,4,5] [] (K':=[(2,.str (List.take (Int.toNat o1) a0)),(3,vi 1),(4,.str (List.drop (Int.toNat 1) (List.drop (Int.toNat o1) a0))),(5,vb r9)]) (L':=[]) (ob:=[(decide (0<=(1:Int)/\(1:Int)<=(List.length (List.drop (Int.toNat o1) a0):Int)))=true,(true=true->CX Tryz.prog 113 [.str (List.take (Int.toNat o1) a0)] (vb r9))]) (by kernel_rfl) (ai.cons hc10 (ai.cons (fun _=>cx (jT n (List.take (Int.toNat o1) a0) _ hr9)) ai.nil)) (To.ah (Wp.ret (To.aA ?_)))
    cases h
    exact To.done hΓ (by kernel_rfl)
   ·refine Wp.skip (To.ah (Wp.seq (Wp.seq ?_)))
    obtain⟨hc14,h⟩:=ax h
    obtain⟨x11,hx11,h⟩:=aS h
    refine r0 [7,8,84] [] [(7,.str (List.take (Int.toNat o1) a0)),(8,.str (List.drop (Int.toNat o1) a0)),(84,vb (bif (decide ((List.length (List.drop (Int.toNat o1) a0):Int)>=1)) then(((((List.drop (Int.toNat o1) a0))[Int.toNat 0]?.getD 0).toNat:Int)==115) else false))] [] (ai.cons hc14 ai.nil) (To.eq (K':=[(7,.str (List.take (Int.toNat o1) a0)),(8,.str (List.drop (Int.toNat o1) a0)),(84,vb x11)]) (L':=[]) (by cases hx11;rfl) (by cases hx11;rfl) (To.ah (cn h (fun h=>?_) (fun h=>?_))))
    ·refine Wp.seq ?_
     obtain⟨hc13,h⟩:=ax h
     obtain⟨r12,hr12,h⟩:=au h
     refine Wp.bI hm hΓ [(4,vb r12)] [2,3,4,5] [] (K':=[(2,.str (List.take (Int.toNat o1) a0)),(3,vi 2),(4,.str (List.drop (Int.toNat 1) (List.drop (Int.toNat o1) a0))),(5,vb r12)]) (L':=[]) (ob:=[(decide (0<=(1:Int)/\(1:Int)<=(List.length (List.drop (Int.toNat o1) a0):Int)))=true,(true=true->CX Tryz.prog 113 [.str (List.take (Int.toNat o1) a0)] (vb r12))]) (by kernel_rfl) (ai.cons hc13 (ai.cons (fun _=>cx (jT n (List.take (Int.toNat o1) a0) _ hr12)) ai.nil)) (To.ah (Wp.ret (To.aA ?_)))
     cases h
     exact To.done hΓ (by kernel_rfl)
    ·refine Wp.skip (To.ah (Wp.seq (rg [2,3,4,5] [] [(2,.str []),(3,vi 0),(4,.str []),(5,vb false)] [] (To.ah (Wp.ret ?_)))))
     cases h
     exact To.done hΓ (by kernel_rfl)
def ox(n:Nat):Option ((List (Int))) :=
 if(decide (List.length (List.replicate 4 0)=4))=true then(if(decide (List.length ([3600000,60000,1000,1]:List (Int))=4))=true then some ([3600000,60000,1000,1]:List (Int)) else none) else none
abbrev rc25(l:List (Int)):D:=.aX false (α:=Int) 0 vu l
abbrev vY(l:List (Int)):D:=.recs (α:=Int) 0 vu l
theorem xZ(n:Nat)(r:(List (Int)))(h:ox n=some r):aJ Tryz.prog 135 [] (.arr (α:=Int) 0 vu r):=by
 unfold ox at h
 refine xo Tryz.f135 rfl fun F0 w0 _=>?_
 refine Wp.seq (rg [0] [0] [(0,.own 0 0)] [(0,138,[vi 0,vi 0,vi 0,vi 0])] (To.pre (St.Be (t:=138) (l:=(List.replicate 4 0)) 0 1 4 (by decide) (by decide) (sF _) (by kernel_rfl) (by kernel_rfl) (by kernel_rfl) (by kernel_rfl) (K':=[(0,.elm 0 0 1 0)]) (L':=[(0,138,[rc25 (List.replicate 4 0)])]) (by kernel_rfl) (by kernel_rfl)) (To.ah (Wp.seq ?_))))
 obtain⟨hc2,h⟩:=ax h
 refine rr [] [(1,vY ([3600000,60000,1000,1]:List (Int)))] [] [0] [0] [(0,.elm 0 0 1 0)] [(0,138,[rc25 ([3600000,60000,1000,1]:List (Int))])] [_,(ck 1 (D.cells (.agg [vi 3600000,vi 60000,vi 1000,vi 1])) 4 (vY ([3600000,60000,1000,1]:List (Int)))/\aM (vY ([3600000,60000,1000,1]:List (Int))))] (ai.cons hc2 (ai.cons (du (by kernel_rfl) rfl (by kernel_rfl) (sF _)) ai.nil)) (To.ah (Wp.ret ?_))
 obtain⟨hc1,h⟩:=ax h
 cases h
 exact To.Sm hΓ (by kernel_rfl) hc1
def nj(n:Nat)(v5:Bool)(v8:Int)(v9:Bs)(v11:Int)(v51:Bool)(b4:List (Int)):Option (Bool×Int) :=
 if v51=true then(some (true,0))
 else(some (v5,v11))
theorem Cj(n:Nat)(v5:Bool)(v8:Int)(v9:Bs)(v11:Int)(v51:Bool)(b4:List (Int))(o:Bool×Int)(h:nj n v5 v8 v9 v11 v51 b4=some o)(hQ:To 87 F0 w0 [(4,.elm 4 0 1 0),(5,vb o.1),(8,vi v8),(9,.str v9),(11,vi o.2)] [(4,138,[rc25 b4])] .normal Q):Wp Tryz.prog 87 F0 w0 [(4,.elm 4 0 1 0),(5,vb v5),(8,vi v8),(9,.str v9),(11,vi v11),(51,vb v51)] [(4,138,[rc25 b4])] (cB (cA (cB (cB (cB (cI (cB (cI (cI (cA (cB (cB (cB (cB (cB (cF Tryz.f125)))))))))))))))) Q:=by
 unfold nj at h
 refine cn h (fun h=>?_) (fun h=>?_)
 ·refine Wp.seq (rg [4,5,8,9] [4] [(4,.elm 4 0 1 0),(5,vb true),(8,vi v8),(9,.str v9)] [(4,138,[rc25 b4])] (To.ah (rg [4,5,8,9,11] [4] [(4,.elm 4 0 1 0),(5,vb true),(8,vi v8),(9,.str v9),(11,vi 0)] [(4,138,[rc25 b4])] (kt [4,5,8,9,11] [4] [(4,.elm 4 0 1 0),(5,vb true),(8,vi v8),(9,.str v9),(11,vi 0)] [(4,138,[rc25 b4])] ?_))))
  cases h
  exact hQ
 ·refine Wp.skip (kt [4,5,8,9,11] [4] [(4,.elm 4 0 1 0),(5,vb v5),(8,vi v8),(9,.str v9),(11,vi v11)] [(4,138,[rc25 b4])] ?_)
  cases h
  exact hQ
def kR(n:Nat):Nat->Bs->Bool->Int->(List (Int))->Option (Sum (Bool×(List (Int))) (Int×Int))
 |0,_,_,_,_=>none
 |k+1,v0,v5,v6,b4=>if(decide ((List.length v0:Int)>0))=true then((qB n v0).bind fun r1 =>
 aQ ((bif (bif (!r1.2.2.2) then true else(decide (r1.2.1<=v6))) then true else(bif (r1.1==[48]) then(bif (decide (v6>=0)) then true else(decide ((List.length r1.2.2.1:Int)>0))) else false)):Bool) fun x2 =>
 if x2=true then(some (.inr (0,3)))
 else((ik n r1.1).bind fun r3 =>
 (nj n v5 r1.2.1 r1.2.2.1 r3 (decide (r3>1099511627776)) b4).bind fun o4 =>
 if(decide (0<=r1.2.1/\r1.2.1<(4:Int)))=true then(if(decide (0<=r1.2.1/\r1.2.1<(List.length b4:Int)))=true then(kR n k r1.2.2.1 o4.1 r1.2.1 (List.set b4 (Int.toNat r1.2.1) o4.2)) else none) else none))
 else(some (.inl (v5,b4)))
theorem CW(n:Nat)(k:Nat):∀(v0:Bs)(v5:Bool)(v6:Int)(b4:List (Int))(o:Sum (Bool×(List (Int))) (Int×Int)),kR n k v0 v5 v6 b4=some o->(Sum.elim (fun s=>To 87 F0 w0 [(4,.elm 4 0 1 0),(5,vb s.1)] [(4,138,[rc25 s.2])] (.exit 0) Q) (fun s=>To 87 F0 w0 [(2,vi s.1),(3,vi s.2)] [] .ret Q)) o->WL Tryz.prog 87 F0 w0 [(0,.str v0),(4,.elm 4 0 1 0),(5,vb v5),(6,vi v6)] [(4,138,[rc25 b4])] (cI (cI (cA (cB (cB (cB (cB (cB (cF Tryz.f125))))))))) Q:=by
 induction k with
 |zero=>intro v0 v5 v6 b4 o h;cases h
 |succ k ih =>
  intro v0 v5 v6 b4 o h hQ
  rw[kR] at h
  refine WL.round (Wp.seq (Wp.seq (rg [0,4,5,6,20] [4] [(0,.str v0),(4,.elm 4 0 1 0),(5,vb v5),(6,vi v6),(20,vb (decide ((List.length v0:Int)>0)))] [(4,138,[rc25 b4])] (To.ah (cn h (fun h=>?_) (fun h=>?_))))))
  ·refine Wp.skip (To.ah (Wp.block (Wp.seq ?_)))
   obtain⟨r1,hr1,h⟩:=au h
   refine rc [] 1 [4,5,6,7,8,9,10] [4] [(4,.elm 4 0 1 0),(5,vb v5),(6,vi v6),(7,.str r1.1),(8,vi r1.2.1),(9,.str r1.2.2.1),(10,vb r1.2.2.2)] [(4,138,[rc25 b4])] (Ix n v0 _ hr1) (To.ah (Wp.seq (Wp.seq ?_)))
   obtain⟨x2,hx2,h⟩:=aS h
   refine rg [4,5,7,8,9,47] [4] [(4,.elm 4 0 1 0),(5,vb v5),(7,.str r1.1),(8,vi r1.2.1),(9,.str r1.2.2.1),(47,vb (bif (bif (!r1.2.2.2) then true else(decide (r1.2.1<=v6))) then true else(bif (r1.1==[48]) then(bif (decide (v6>=0)) then true else(decide ((List.length r1.2.2.1:Int)>0))) else false)))] [(4,138,[rc25 b4])] (To.eq (K':=[(4,.elm 4 0 1 0),(5,vb v5),(7,.str r1.1),(8,vi r1.2.1),(9,.str r1.2.2.1),(47,vb x2)]) (L':=[(4,138,[rc25 b4])]) (by cases hx2;rfl) (by cases hx2;rfl) (To.ah (cn h (fun h=>?_) (fun h=>?_))))
   ·refine Wp.seq (rg [2,3] [] [(2,vi 0),(3,vi 3)] [] (To.ah (Wp.ret (To.aA (To.aP (To.aA ?_))))))
    cases h
    exact hQ
   ·refine Wp.skip (To.ah (Wp.seq ?_))
    obtain⟨r3,hr3,h⟩:=au h
    refine rc [] 1 [4,5,8,9,11] [4] [(4,.elm 4 0 1 0),(5,vb v5),(8,vi r1.2.1),(9,.str r1.2.2.1),(11,vi r3)] [(4,138,[rc25 b4])] (nq n r1.1 _ hr3) (To.ah (Wp.seq (Wp.seq (rg [4,5,8,9,11,51] [4] [(4,.elm 4 0 1 0),(5,vb v5),(8,vi r1.2.1),(9,.str r1.2.2.1),(11,vi r3),(51,vb (decide (r3>1099511627776)))] [(4,138,[rc25 b4])] (To.ah ?_)))))
    obtain⟨o4,ho4,h⟩:=au h
    refine kw [4,5,8,9,11,51] [4] [(4,.elm 4 0 1 0),(5,vb v5),(8,vi r1.2.1),(9,.str r1.2.2.1),(11,vi r3),(51,vb (decide (r3>1099511627776)))] [(4,138,[rc25 b4])] (Cj n v5 r1.2.1 r1.2.2.1 r3 (decide (r3>1099511627776)) b4 o4 ho4 (To.ah (Wp.seq ?_)))
    obtain⟨hc5,h⟩:=ax h
    obtain⟨hc6,h⟩:=ax h
    refine rr [] [(3,vY (List.set b4 (Int.toNat r1.2.1) o4.2))] [] [4,5,8,9] [4] [(4,.elm 4 0 1 0),(5,vb o4.1),(8,vi r1.2.1),(9,.str r1.2.2.1)] [(4,138,[rc25 (List.set b4 (Int.toNat r1.2.1) o4.2)])] [_,_,FO 0 vu b4 r1.2.1 0 [vi o4.2] (vY (List.set b4 (Int.toNat r1.2.1) o4.2))] (ai.cons hc5 (ai.cons hc6 (ai.cons (RU (by kernel_rfl)) ai.nil))) (To.ah (Wp.seq (rg [4,5,6,9] [4] [(4,.elm 4 0 1 0),(5,vb o4.1),(6,vi r1.2.1),(9,.str r1.2.2.1)] [(4,138,[rc25 (List.set b4 (Int.toNat r1.2.1) o4.2)])] (To.ah (rg [0,4,5,6] [4] [(0,.str r1.2.2.1),(4,.elm 4 0 1 0),(5,vb o4.1),(6,vi r1.2.1)] [(4,138,[rc25 (List.set b4 (Int.toNat r1.2.1) o4.2)])] (To.aR (To.again ?_)))))))
    exact ih r1.2.2.1 o4.1 r1.2.1 (List.set b4 (Int.toNat r1.2.1) o4.2) _ h hQ
  ·refine Wp.exit (To.aK (To.aK (kt [4,5] [4] [(4,.elm 4 0 1 0),(5,vb v5)] [(4,138,[rc25 b4])] ?_)))
   cases h
   exact hQ
def pZ(n:Nat)(v5:Bool)(v13:Int)(v14:Int)(v69:Bool)(b4:List (Int))(b12:List (Int)):Option (Bool) :=
 if v69=true then some true
 else some v5
theorem BV(n:Nat)(v5:Bool)(v13:Int)(v14:Int)(v69:Bool)(b4:List (Int))(b12:List (Int))(o:Bool)(h:pZ n v5 v13 v14 v69 b4 b12=some o)(hQ:To 87 F0 w0 [(4,.elm 4 0 1 0),(5,vb o),(12,.elm 12 0 1 0),(13,vi v13),(14,vi v14)] [(4,138,[rc25 b4]),(12,138,[rc25 b12])] .normal Q):Wp Tryz.prog 87 F0 w0 [(4,.elm 4 0 1 0),(5,vb v5),(12,.elm 12 0 1 0),(13,vi v13),(14,vi v14),(69,vb v69)] [(4,138,[rc25 b4]),(12,138,[rc25 b12])] (cB (cA (cI (cA (cB (cI (cI (cB (cA (cB (cB (cB (cB (cB (cB (cB (cB (cF Tryz.f125)))))))))))))))))) Q:=by
 unfold pZ at h
 refine cn h (fun h=>?_) (fun h=>?_)
 ·refine rg [4,5,12,13,14] [4,12] [(4,.elm 4 0 1 0),(5,vb true),(12,.elm 12 0 1 0),(13,vi v13),(14,vi v14)] [(4,138,[rc25 b4]),(12,138,[rc25 b12])] (kt [4,5,12,13,14] [4,12] [(4,.elm 4 0 1 0),(5,vb true),(12,.elm 12 0 1 0),(13,vi v13),(14,vi v14)] [(4,138,[rc25 b4]),(12,138,[rc25 b12])] ?_)
  cases h
  exact hQ
 ·refine Wp.skip (kt [4,5,12,13,14] [4,12] [(4,.elm 4 0 1 0),(5,vb v5),(12,.elm 12 0 1 0),(13,vi v13),(14,vi v14)] [(4,138,[rc25 b4]),(12,138,[rc25 b12])] ?_)
  cases h
  exact hQ
def qf(n:Nat)(v5:Bool)(v13:Int)(v14:Int)(b4:List (Int))(b12:List (Int)):Option (Bool×Int) :=
 if(decide (0<=v14/\v14<(4:Int)))=true then(if(decide (0<=v14/\v14<(List.length b4:Int)))=true then(if(decide (0<=v14/\v14<(List.length b12:Int)))=true then(if((((b12)[Int.toNat v14]?.getD 0) != 0))=true then((pZ n v5 v13 v14 (decide (((b4)[Int.toNat v14]?.getD 0)>(IntKind.wrap .i64 (Int.tdiv 1099511627776 ((b12)[Int.toNat v14]?.getD 0))))) b4 b12).bind fun o4 =>
 if(!o4)=true then(if(decide (0<=v14/\v14<(4:Int)))=true then(if(decide (0<=v14/\v14<(List.length b4:Int)))=true then(if(decide (0<=v14/\v14<(List.length b12:Int)))=true then(some (o4,(IntKind.wrap .i64 (v13+(IntKind.wrap .i64 (((b4)[Int.toNat v14]?.getD 0)*((b12)[Int.toNat v14]?.getD 0))))))) else none) else none) else none)
 else(some (o4,v13))) else none) else none) else none) else none
abbrev Ku(x0:Int)(x1:List (Int)):=(decide (0<=x0/\x0<(List.length x1:Int)))
abbrev Io(x0:Int):=(decide (0<=x0/\x0<(4:Int)))
abbrev Rk(x0:List (Int))(x1:Int)(x2:List (Int)):=(decide (((x0)[Int.toNat x1]?.getD 0)>(IntKind.wrap .i64 (Int.tdiv 1099511627776 ((x2)[Int.toNat x1]?.getD 0)))))
theorem C9(n:Nat)(v5:Bool)(v13:Int)(v14:Int)(b4:List (Int))(b12:List (Int))(o:Bool×Int)(h:qf n v5 v13 v14 b4 b12=some o)(hQ:To 87 F0 w0 [(4,.elm 4 0 1 0),(5,vb o.1),(12,.elm 12 0 1 0),(13,vi o.2),(14,vi v14)] [(4,138,[rc25 b4]),(12,138,[rc25 b12])] .normal Q):Wp Tryz.prog 87 F0 w0 [(4,.elm 4 0 1 0),(5,vb v5),(12,.elm 12 0 1 0),(13,vi v13),(14,vi v14)] [(4,138,[rc25 b4]),(12,138,[rc25 b12])] (cA (cB (cI (cI (cB (cA (cB (cB (cB (cB (cB (cB (cB (cB (cF Tryz.f125))))))))))))))) Q:=by
 unfold qf at h
 refine Wp.block (Wp.seq (Wp.seq ?_))
 obtain⟨hc8,h⟩:=ax h
 obtain⟨hc9,h⟩:=ax h
 obtain⟨hc10,h⟩:=ax h
 obtain⟨hc11,h⟩:=ax h
 refine Wp.bI hm hΓ [] [4,5,12,13,14,69] [4,12] (K':=[(4,.elm 4 0 1 0),(5,vb v5),(12,.elm 12 0 1 0),(13,vi v13),(14,vi v14),(69,vb (Rk b4 v14 b12))]) (L':=[(4,138,[rc25 b4]),(12,138,[rc25 b12])]) (ob:=[(Io v14)=true,(Ku v14 b4)=true,(Io v14)=true,(Ku v14 b12)=true,((((b12)[Int.toNat v14]?.getD 0) != 0))=true]) (by kernel_rfl) (ai.cons hc8 (ai.cons hc9 (ai.cons hc8 (ai.cons hc10 (ai.cons hc11 ai.nil))))) (To.ah ?_)
 obtain⟨o4,ho4,h⟩:=au h
 refine kw [4,5,12,13,14,69] [4,12] [(4,.elm 4 0 1 0),(5,vb v5),(12,.elm 12 0 1 0),(13,vi v13),(14,vi v14),(69,vb (Rk b4 v14 b12))] [(4,138,[rc25 b4]),(12,138,[rc25 b12])] (BV n v5 v13 v14 (Rk b4 v14 b12) b4 b12 o4 ho4 (To.ah (Wp.seq (rg [4,5,12,13,14,71] [4,12] [(4,.elm 4 0 1 0),(5,vb o4),(12,.elm 12 0 1 0),(13,vi v13),(14,vi v14),(71,vb (!o4))] [(4,138,[rc25 b4]),(12,138,[rc25 b12])] (To.ah (cn h (fun h=>?_) (fun h=>?_)))))))
 ·obtain⟨hc5,h⟩:=ax h
  obtain⟨hc6,h⟩:=ax h
  obtain⟨hc7,h⟩:=ax h
  refine Wp.bI hm hΓ [] [4,5,12,13,14] [4,12] (K':=[(4,.elm 4 0 1 0),(5,vb o4),(12,.elm 12 0 1 0),(13,vi (IntKind.wrap .i64 (v13+(IntKind.wrap .i64 (((b4)[Int.toNat v14]?.getD 0)*((b12)[Int.toNat v14]?.getD 0)))))),(14,vi v14)]) (L':=[(4,138,[rc25 b4]),(12,138,[rc25 b12])]) (ob:=[(Io v14)=true,(Ku v14 b4)=true,(Io v14)=true,(Ku v14 b12)=true]) (by kernel_rfl) (ai.cons hc5 (ai.cons hc6 (ai.cons hc5 (ai.cons hc7 ai.nil)))) (To.aR (kt [4,5,12,13,14] [4,12] [(4,.elm 4 0 1 0),(5,vb o4),(12,.elm 12 0 1 0),(13,vi (IntKind.wrap .i64 (v13+(IntKind.wrap .i64 (((b4)[Int.toNat v14]?.getD 0)*((b12)[Int.toNat v14]?.getD 0)))))),(14,vi v14)] [(4,138,[rc25 b4]),(12,138,[rc25 b12])] ?_))
  cases h
  exact hQ
 ·refine Wp.skip (To.aR (kt [4,5,12,13,14] [4,12] [(4,.elm 4 0 1 0),(5,vb o4),(12,.elm 12 0 1 0),(13,vi v13),(14,vi v14)] [(4,138,[rc25 b4]),(12,138,[rc25 b12])] ?_))
  cases h
  exact hQ
def eF(n:Nat)(b4:List (Int))(b12:List (Int)):Nat->Bool->Int->Int->Option (Bool×Int)
 |0,_,_,_=>none
 |k+1,v5,v13,v14=>if(decide (v14<4))=true then((qf n v5 v13 v14 b4 b12).bind fun o4 =>
 eF n b4 b12 k o4.1 o4.2 (IntKind.wrap .i64 (v14+1)))
 else(some (v5,v13))
end Go.Proofs.YtpmmhhmhckpnfaaGreat.M
