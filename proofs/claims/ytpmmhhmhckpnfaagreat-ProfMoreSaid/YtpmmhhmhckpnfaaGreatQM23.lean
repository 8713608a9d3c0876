import Derived.Test.YtpmmhhmhckpnfaaGreatQM23g
set_option linter.all false
namespace Go.Proofs.YtpmmhhmhckpnfaaGreat.M
open Go.RowKit Go.Proofs.YtpmmhhmhckpnfaaGreat.RX
set_option maxRecDepth 100000
def fu(n:Nat)(v1:Ls)(v3:Bs)(v12:Ls)(v14:Ls)(b9:aB)(b15:af)(b17:af):Nat->Int->Option (Sum (Unit) (Bool))
 |0,_=>none
 |k+1,v19=>if(decide (v19<(List.length b15.ak:Int)))=true then(if(decide (0<=v19/\v19<(List.length b15.ak:Int)))=true then((gZ n b17 ((b15.ak)[Int.toNat v19]?.getD [])).bind fun r14 =>
 if((!((!r14.2)==false)||decide (0<=v19/\v19<(List.length b15.aj:Int))))=true then(((if((!r14.2)==false)=true then jJ n r14.1 ((b15.aj)[Int.toNat v19]?.getD (af.mk 0 [] [] [])) else some false)).bind fun r15 =>
 if((!((bif (!r14.2) then true else(!r15))==false)||decide (0<=v19/\v19<(List.length b15.ak:Int))))=true then(((if((bif (!r14.2) then true else(!r15))==false)=true then mo n v12 ((b15.ak)[Int.toNat v19]?.getD []) else some false)).bind fun r16 =>
 if(bif (bif (!r14.2) then true else(!r15)) then true else r16)=true then(some (.inr false))
 else(fu n v1 v3 v12 v14 b9 b15 b17 k (IntKind.wrap .i64 (v19+1)))) else none) else none) else none)
 else(some (.inl ()))
theorem yR(n:Nat)(v1:Ls)(v3:Bs)(v12:Ls)(v14:Ls)(b9:aB)(b15:af)(b17:af){F0:Fz}{w0:Pt Tryz.prog}{Q:Exit->Act->World->Prop}(k:Nat):∀(v19:Int)(o:Sum (Unit) (Bool)),fu n v1 v3 v12 v14 b9 b15 b17 k v19=some o->(Sum.elim (fun s=>To 188 F0 w0 [(1,ls v1),(3,.str v3),(9,.own 9 0),(12,ls v12),(14,ls v14),(15,.own 15 0)] [(9,31,(ay b9)),(15,25,qc6 b15)] (.exit 0) Q) (fun s=>To 188 F0 w0 [(8,vb s)] [] .ret Q)) o->WL Tryz.prog 188 F0 w0 [(1,ls v1),(3,.str v3),(9,.own 9 0),(12,ls v12),(14,ls v14),(15,.own 15 0),(17,.own 17 0),(19,vi v19)] [(9,31,(ay b9)),(15,25,qc6 b15),(17,25,qc6 b17)] (cI (cI (cB (cA (cB (cB (cB (cB (cB (cB (cB (cB (cB (cB (cF Tryz.f4))))))))))))))) Q:=by
 induction k with
 |zero=>intro v19 o h;cases h
 |succ k ih =>
  intro v19 o h hQ
  rw[fu] at h
  refine WL.round (Wp.seq (Wp.seq (rg [1,3,9,12,14,15,17,19,88] [9,15,17] [(1,ls v1),(3,.str v3),(9,.own 9 0),(12,ls v12),(14,ls v14),(15,.own 15 0),(17,.own 17 0),(19,vi v19),(88,vb (yF v19 b15))] [(9,31,(ay b9)),(15,25,qc6 b15),(17,25,qc6 b17)] (To.ah (cn h (fun h=>?_) (fun h=>?_))))))
  ·refine Wp.skip (To.ah (Wp.seq (Wp.block (Wp.seq ?_))))
   obtain⟨hc19,h⟩:=ax h
   obtain⟨r14,hr14,h⟩:=au h
   refine Wp.bI hm hΓ [(6,.tup [.agg (qc6 r14.1),vb r14.2])] [1,3,9,12,14,15,17,19,20,21] [9,15,17,20] (K':=[(1,ls v1),(3,.str v3),(9,.own 9 0),(12,ls v12),(14,ls v14),(15,.own 15 0),(17,.own 17 0),(19,vi v19),(20,.own 20 0),(21,vb r14.2)]) (L':=[(9,31,(ay b9)),(15,25,qc6 b15),(17,25,qc6 b17),(20,25,qc6 r14.1)]) (ob:=[(Ip v19 b15)=true,(true=true->CX Tryz.prog 21 [.agg (qc6 b17),.str (df b15 v19)] (.tup [.agg (qc6 r14.1),vb r14.2]))]) (by kernel_rfl) (ai.cons hc19 (ai.cons (fun _=>cx (iO n b17 (df b15 v19) _ hr14)) ai.nil)) (To.ah (Wp.seq ?_))
   obtain⟨hc17,h⟩:=ax h
   obtain⟨r15,hr15,h⟩:=au h
   obtain⟨hc18,h⟩:=ax h
   obtain⟨r16,hr16,h⟩:=au h
   refine Wp.bI hm hΓ [(9,vb r15),(19,vb r16)] [1,3,9,12,14,15,17,19,121] [9,15,17] (K':=[(1,ls v1),(3,.str v3),(9,.own 9 0),(12,ls v12),(14,ls v14),(15,.own 15 0),(17,.own 17 0),(19,vi v19),(121,vb (bif (bif (!r14.2) then true else(!r15)) then true else r16))]) (L':=[(9,31,(ay b9)),(15,25,qc6 b15),(17,25,qc6 b17)]) (ob:=[(!((!r14.2)==false)||decide (ex6 v19 b15))=true,(((!r14.2)==false)=true->CX Tryz.prog 11 [.agg (qc6 r14.1),.agg [vi ((ex5 b15 v19).av),.str ((ex5 b15 v19).aC),ls ((ex5 b15 v19).ak),tn4 ((ex5 b15 v19).aj)]] (vb r15)),(!((bif (!r14.2) then true else(!r15))==false)||decide (0<=v19/\v19<(List.length b15.ak:Int)))=true,(((bif (!r14.2) then true else(!r15))==false)=true->CX Tryz.prog 22 [ls v12,.str (df b15 v19)] (vb r16))]) (by kernel_rfl) (ai.cons hc17 (ai.cons (fun hg=>cx (Jo n r14.1 (ex5 b15 v19) _ (jB hg hr15))) (ai.cons hc18 (ai.cons (fun hg=>cx (uG n v12 (df b15 v19) _ (jB hg hr16))) ai.nil)))) (To.ah (cn h (fun h=>?_) (fun h=>?_)))
   ·refine Wp.seq (rg [8] [] [(8,vb false)] [] (To.ah (Wp.ret (To.aP (To.aA (To.aA ?_))))))
    cases h
    exact hQ
   ·refine Wp.skip (To.aR (To.ah (rg [1,3,9,12,14,15,17,19] [9,15,17] [(1,ls v1),(3,.str v3),(9,.own 9 0),(12,ls v12),(14,ls v14),(15,.own 15 0),(17,.own 17 0),(19,vi (IntKind.wrap .i64 (v19+1)))] [(9,31,(ay b9)),(15,25,qc6 b15),(17,25,qc6 b17)] (kt [1,3,9,12,14,15,17,19] [9,15,17] [(1,ls v1),(3,.str v3),(9,.own 9 0),(12,ls v12),(14,ls v14),(15,.own 15 0),(17,.own 17 0),(19,vi (IntKind.wrap .i64 (v19+1)))] [(9,31,(ay b9)),(15,25,qc6 b15),(17,25,qc6 b17)] (To.again ?_)))))
    exact ih (IntKind.wrap .i64 (v19+1)) _ h hQ
  ·refine Wp.exit (To.aK (To.aK (kt [1,3,9,12,14,15] [9,15] [(1,ls v1),(3,.str v3),(9,.own 9 0),(12,ls v12),(14,ls v14),(15,.own 15 0)] [(9,31,(ay b9)),(15,25,qc6 b15)] ?_)))
   cases h
   exact hQ
def fy(n:Nat)(v1:Ls)(v3:Bs)(v12:Ls)(v14:Ls)(b9:aB)(b15:af):Nat->Int->Option (Sum (Unit) (Bool))
 |0,_=>none
 |k+1,v22=>if(decide (v22<(List.length v14:Int)))=true then(if(decide (0<=v22/\v22<(List.length v14:Int)))=true then((mo n v12 ((v14)[Int.toNat v22]?.getD [])).bind fun r15 =>
 if(!r15)=true then(some (.inr false))
 else(fy n v1 v3 v12 v14 b9 b15 k (IntKind.wrap .i64 (v22+1)))) else none)
 else(some (.inl ()))
theorem yr(n:Nat)(v1:Ls)(v3:Bs)(v12:Ls)(v14:Ls)(b9:aB)(b15:af){F0:Fz}{w0:Pt Tryz.prog}{Q:Exit->Act->World->Prop}(k:Nat):∀(v22:Int)(o:Sum (Unit) (Bool)),fy n v1 v3 v12 v14 b9 b15 k v22=some o->(Sum.elim (fun s=>To 188 F0 w0 [(1,ls v1),(3,.str v3),(9,.own 9 0),(12,ls v12),(15,.own 15 0)] [(9,31,(ay b9)),(15,25,qc6 b15)] (.exit 2) Q) (fun s=>To 188 F0 w0 [(8,vb s)] [] .ret Q)) o->WL Tryz.prog 188 F0 w0 [(1,ls v1),(3,.str v3),(9,.own 9 0),(12,ls v12),(14,ls v14),(15,.own 15 0),(22,vi v22)] [(9,31,(ay b9)),(15,25,qc6 b15)] (cI (cI (cB (cA (cB (cB (cB (cB (cB (cB (cB (cB (cB (cB (cB (cF Tryz.f4)))))))))))))))) Q:=by
 induction k with
 |zero=>intro v22 o h;cases h
 |succ k ih =>
  intro v22 o h hQ
  rw[fy] at h
  refine WL.round (Wp.seq (Wp.seq (rg [1,3,9,12,14,15,22,125] [9,15] [(1,ls v1),(3,.str v3),(9,.own 9 0),(12,ls v12),(14,ls v14),(15,.own 15 0),(22,vi v22),(125,vb (ex4 v22 v14))] [(9,31,(ay b9)),(15,25,qc6 b15)] (To.ah (cn h (fun h=>?_) (fun h=>?_))))))
  ·refine Wp.skip (To.ah (Wp.seq (Wp.block (Wp.seq ?_))))
   obtain⟨hc16,h⟩:=ax h
   obtain⟨r15,hr15,h⟩:=au h
   refine rr [] [(5,vb r15)] [] [1,3,9,12,14,15,22,134] [9,15] [(1,ls v1),(3,.str v3),(9,.own 9 0),(12,ls v12),(14,ls v14),(15,.own 15 0),(22,vi v22),(134,vb (!r15))] [(9,31,(ay b9)),(15,25,qc6 b15)] [_,_] (ai.cons hc16 (ai.cons (c1 (uG n v12 ((v14)[Int.toNat v22]?.getD []) _ hr15)) ai.nil)) (To.ah (cn h (fun h=>?_) (fun h=>?_)))
   ·refine Wp.seq (rg [8] [] [(8,vb false)] [] (To.ah (Wp.ret (To.aP (To.aA (To.aA ?_))))))
    cases h
    exact hQ
   ·refine Wp.skip (To.aR (To.ah (rg [1,3,9,12,14,15,22] [9,15] [(1,ls v1),(3,.str v3),(9,.own 9 0),(12,ls v12),(14,ls v14),(15,.own 15 0),(22,vi (IntKind.wrap .i64 (v22+1)))] [(9,31,(ay b9)),(15,25,qc6 b15)] (kt [1,3,9,12,14,15,22] [9,15] [(1,ls v1),(3,.str v3),(9,.own 9 0),(12,ls v12),(14,ls v14),(15,.own 15 0),(22,vi (IntKind.wrap .i64 (v22+1)))] [(9,31,(ay b9)),(15,25,qc6 b15)] (To.again ?_)))))
    exact ih (IntKind.wrap .i64 (v22+1)) _ h hQ
  ·refine Wp.exit (To.aK (To.aK (kt [1,3,9,12,15] [9,15] [(1,ls v1),(3,.str v3),(9,.own 9 0),(12,ls v12),(15,.own 15 0)] [(9,31,(ay b9)),(15,25,qc6 b15)] ?_)))
   cases h
   exact hQ
def qj(n:Nat)(a0:af)(a1:Ls)(a2:Ls)(a3:Bs):Option (Bool) :=
 (qR n a0 300).bind fun r1 =>
 ((if((!r1)==false)=true then nz n a1 40 else some false)).bind fun r2 =>
 ((if((bif (!r1) then true else(!r2))==false)=true then nz n a2 40 else some false)).bind fun r3 =>
 if(bif (bif (!r1) then true else(!r2)) then true else(!r3))=true then((kM n).bind fun r4 =>
 some r4)
 else((sW n a0).bind fun r5 =>
 if(r5.f_E != 0)=true then((kM n).bind fun r6 =>
 some r6)
 else((sL n a1 a2).bind fun r7 =>
 (kK n r5.f_N a1).bind fun r8 =>
 (kK n r5.f_N r7).bind fun r9 =>
 (jY n r8.1).bind fun r10 =>
 ((if((!r10)==false)=true then jY n r9.1 else some false)).bind fun r11 =>
 if(bif (!r10) then true else(!r11))=true then some false
 else((gZ n r8.1 jV).bind fun r12 =>
 (gZ n r9.1 jV).bind fun r13 =>
 (fu n a1 a3 r8.2 r9.2 r5 r12.1 r13.1 n 0).bind fun o14 =>
 (Sum.elim (fun o14=>(fy n a1 a3 r8.2 r9.2 r5 r12.1 n 0).bind fun o15 =>
 (Sum.elim (fun o15=>(rE n r5.f_N).bind fun r16 =>
 (kK n r5.f_N r16).bind fun r17 =>
 (gZ n r5.f_N jV).bind fun r18 =>
 (gZ n r18.1 a3).bind fun r19 =>
 ((if((bif ((List.length r17.2:Int)==0) then((IntKind.wrap .i64 ((List.length r12.1.ak:Int)+(List.length r8.2:Int)))==(List.length r18.1.ak:Int)) else false)==true)=true then rP n r5.f_N [a3] a1 else some [])).bind fun r20 =>
 ((if((bif ((List.length r17.2:Int)==0) then((IntKind.wrap .i64 ((List.length r12.1.ak:Int)+(List.length r8.2:Int)))==(List.length r18.1.ak:Int)) else false)==true)=true then vN n r5.f_N a3 r20 else some false)).bind fun r21 =>
 ((if((bif (bif ((List.length r17.2:Int)==0) then((IntKind.wrap .i64 ((List.length r12.1.ak:Int)+(List.length r8.2:Int)))==(List.length r18.1.ak:Int)) else false) then(r21==r19.2) else false)==true)=true then kM n else some false)).bind fun r22 =>
 aQ ((bif (bif (bif ((List.length r17.2:Int)==0) then((IntKind.wrap .i64 ((List.length r12.1.ak:Int)+(List.length r8.2:Int)))==(List.length r18.1.ak:Int)) else false) then(r21==r19.2) else false) then r22 else false):Bool) fun x23 =>
 some x23) (fun o15=>some o15)) o15) (fun o14=>some o14)) o14)))
theorem BW(n:Nat)(a0:af)(a1:Ls)(a2:Ls)(a3:Bs)(r:Bool)(h:qj n a0 a1 a2 a3=some r):aJ Tryz.prog 4 [.agg (qc6 a0),ls a1,ls a2,.str a3] (vb r):=by
 unfold qj at h
 refine xo Tryz.f4 rfl fun F0 w0 _=>?_
 refine Wp.seq (rg [1,2,3,4] [4] [(1,ls a1),(2,ls a2),(3,.str a3),(4,.own 4 0)] [(4,25,qc6 a0)] (To.ah (Wp.seq (Wp.seq ?_))))
 obtain⟨r1,hr1,h⟩:=au h
 obtain⟨r2,hr2,h⟩:=au h
 obtain⟨r3,hr3,h⟩:=au h
 refine rr [] [(1,vb r1),(5,vb r2),(10,vb r3)] [] [1,2,3,4,41] [4] [(1,ls a1),(2,ls a2),(3,.str a3),(4,.own 4 0),(41,vb (bif (bif (!r1) then true else(!r2)) then true else(!r3)))] [(4,25,qc6 a0)] [_,(((!r1)==false)=true->CX Tryz.prog 6 [ls a1,vi 40] (vb r2)),(((bif (!r1) then true else(!r2))==false)=true->CX Tryz.prog 6 [ls a2,vi 40] (vb r3))] (ai.cons (c1 (G4 n a0 300 _ hr1)) (ai.cons (fun hg=>cx (zD n a1 40 _ (jB hg hr2))) (ai.cons (fun hg=>cx (zD n a2 40 _ (jB hg hr3))) ai.nil))) (To.ah (cn h (fun h=>?_) (fun h=>?_)))
 ·refine Wp.seq ?_
  obtain⟨r4,hr4,h⟩:=au h
  refine rc [] 0 [8] [] [(8,vb r4)] [] (uq n  _ hr4) (To.ah (Wp.ret (To.aA ?_)))
  cases h
  exact To.done hΓ (by kernel_rfl)
 ·refine Wp.skip (To.ah (Wp.seq ?_))
  obtain⟨r5,hr5,h⟩:=au h
  refine rc [] 1 [1,2,3,9] [9] [(1,ls a1),(2,ls a2),(3,.str a3),(9,.own 9 0)] [(9,31,(ay r5))] (JF n a0 _ hr5) (To.ah (Wp.seq (Wp.seq (rg [1,2,3,9,47] [9] [(1,ls a1),(2,ls a2),(3,.str a3),(9,.own 9 0),(47,vb (r5.f_E != 0))] [(9,31,(ay r5))] (To.ah (cn h (fun h=>?_) (fun h=>?_)))))))
  ·refine Wp.seq ?_
   obtain⟨r6,hr6,h⟩:=au h
   refine rc [] 0 [8] [] [(8,vb r6)] [] (uq n  _ hr6) (To.ah (Wp.ret (To.aA ?_)))
   cases h
   exact To.done hΓ (by kernel_rfl)
  ·refine Wp.skip (To.ah (Wp.seq ?_))
   obtain⟨r7,hr7,h⟩:=au h
   refine rc [] 2 [1,3,9,10] [9] [(1,ls a1),(3,.str a3),(9,.own 9 0),(10,ls r7)] [(9,31,(ay r5))] (Jn n a1 a2 _ hr7) (To.ah (Wp.seq ?_))
   obtain⟨r8,hr8,h⟩:=au h
   refine rc [] 3 [1,3,9,10,11,12] [9,11] [(1,ls a1),(3,.str a3),(9,.own 9 0),(10,ls r7),(11,.own 11 0),(12,ls r8.2)] [(9,31,(ay r5)),(11,25,qc6 r8.1)] (qk n r5.f_N a1 _ hr8) (To.ah (Wp.seq ?_))
   obtain⟨r9,hr9,h⟩:=au h
   refine rc [] 3 [1,3,9,11,12,13,14] [9,11,13] [(1,ls a1),(3,.str a3),(9,.own 9 0),(11,.own 11 0),(12,ls r8.2),(13,.own 13 0),(14,ls r9.2)] [(9,31,(ay r5)),(11,25,qc6 r8.1),(13,25,qc6 r9.1)] (qk n r5.f_N r7 _ hr9) (To.ah (Wp.seq (Wp.seq ?_)))
   obtain⟨r10,hr10,h⟩:=au h
   obtain⟨r11,hr11,h⟩:=au h
   refine rr [] [(1,vb r10),(5,vb r11)] [] [1,3,9,11,12,13,14,73] [9,11,13] [(1,ls a1),(3,.str a3),(9,.own 9 0),(11,.own 11 0),(12,ls r8.2),(13,.own 13 0),(14,ls r9.2),(73,vb (bif (!r10) then true else(!r11)))] [(9,31,(ay r5)),(11,25,qc6 r8.1),(13,25,qc6 r9.1)] [_,(((!r10)==false)=true->CX Tryz.prog 20 [.agg (qc6 r9.1)] (vb r11))] (ai.cons (c1 (uf n r8.1 _ hr10)) (ai.cons (fun hg=>cx (uf n r9.1 _ (jB hg hr11))) ai.nil)) (To.ah (cn h (fun h=>?_) (fun h=>?_)))
   ·refine Wp.seq (rg [8] [] [(8,vb false)] [] (To.ah (Wp.ret (To.aA ?_))))
    cases h
    exact To.done hΓ (by kernel_rfl)
   ·refine Wp.skip (To.ah (Wp.seq ?_))
    obtain⟨r12,hr12,h⟩:=au h
    refine rc [] 1 [1,3,9,12,13,14,15] [9,13,15] [(1,ls a1),(3,.str a3),(9,.own 9 0),(12,ls r8.2),(13,.own 13 0),(14,ls r9.2),(15,.own 15 0)] [(9,31,(ay r5)),(13,25,qc6 r9.1),(15,25,qc6 r12.1)] (iO n r8.1 jV _ hr12) (To.ah (Wp.seq ?_))
    obtain⟨r13,hr13,h⟩:=au h
    refine rc [] 1 [1,3,9,12,14,15,17] [9,15,17] [(1,ls a1),(3,.str a3),(9,.own 9 0),(12,ls r8.2),(14,ls r9.2),(15,.own 15 0),(17,.own 17 0)] [(9,31,(ay r5)),(15,25,qc6 r12.1),(17,25,qc6 r13.1)] (iO n r9.1 jV _ hr13) (To.ah (Wp.seq (Wp.seq (rg [1,3,9,12,14,15,17,19] [9,15,17] [(1,ls a1),(3,.str a3),(9,.own 9 0),(12,ls r8.2),(14,ls r9.2),(15,.own 15 0),(17,.own 17 0),(19,vi 0)] [(9,31,(ay r5)),(15,25,qc6 r12.1),(17,25,qc6 r13.1)] (To.ah (Wp.block ?_))))))
    obtain⟨o14,ho14,h⟩:=au h
    refine kw [1,3,9,12,14,15,17,19] [9,15,17] [(1,ls a1),(3,.str a3),(9,.own 9 0),(12,ls r8.2),(14,ls r9.2),(15,.own 15 0),(17,.own 17 0),(19,vi 0)] [(9,31,(ay r5)),(15,25,qc6 r12.1),(17,25,qc6 r13.1)] (Wp.bE (yR n a1 a3 r8.2 r9.2 r5 r12.1 r13.1 n 0 o14 ho14 ?_))
    rcases o14 with o14|o14
    ·replace h:=cv h
     refine To.aY (To.ah (Wp.seq (Wp.seq (rg [1,3,9,12,14,15,22] [9,15] [(1,ls a1),(3,.str a3),(9,.own 9 0),(12,ls r8.2),(14,ls r9.2),(15,.own 15 0),(22,vi 0)] [(9,31,(ay r5)),(15,25,qc6 r12.1)] (To.ah (Wp.block ?_))))))
     obtain⟨o15,ho15,h⟩:=au h
     refine kw [1,3,9,12,14,15,22] [9,15] [(1,ls a1),(3,.str a3),(9,.own 9 0),(12,ls r8.2),(14,ls r9.2),(15,.own 15 0),(22,vi 0)] [(9,31,(ay r5)),(15,25,qc6 r12.1)] (Wp.bE (yr n a1 a3 r8.2 r9.2 r5 r12.1 n 0 o15 ho15 ?_))
     rcases o15 with o15|o15
     ·replace h:=cv h
      refine To.aY (To.ah (Wp.seq ?_))
      obtain⟨r16,hr16,h⟩:=au h
      obtain⟨r17,hr17,h⟩:=au h
      refine Wp.bI hm hΓ [(4,ls r16),(5,.tup [.agg (qc6 r17.1),ls r17.2])] [1,3,9,12,15,24] [9,15] (K':=[(1,ls a1),(3,.str a3),(9,.own 9 0),(12,ls r8.2),(15,.own 15 0),(24,ls r17.2)]) (L':=[(9,31,(ay r5)),(15,25,qc6 r12.1)]) (ob:=[(true=true->CX Tryz.prog 13 [.agg [vi r5.f_N.av,.str r5.f_N.aC,ls r5.f_N.ak,tn4 r5.f_N.aj]] (ls r16)),(true=true->CX Tryz.prog 9 [.agg [vi r5.f_N.av,.str r5.f_N.aC,ls r5.f_N.ak,tn4 r5.f_N.aj],ls r16] (.tup [.agg (qc6 r17.1),ls r17.2]))]) (by kernel_rfl) (ai.cons (fun _=>cx (Dj n r5.f_N _ hr16)) (ai.cons (fun _=>cx (qk n r5.f_N r16 _ hr17)) ai.nil)) (To.ah (Wp.seq ?_))
      obtain⟨r18,hr18,h⟩:=au h
      refine rc [] 2 [1,3,9,12,15,24,25] [9,15,25] [(1,ls a1),(3,.str a3),(9,.own 9 0),(12,ls r8.2),(15,.own 15 0),(24,ls r17.2),(25,.own 25 0)] [(9,31,(ay r5)),(15,25,qc6 r12.1),(25,25,qc6 r18.1)] (iO n r5.f_N jV _ hr18) (To.ah (Wp.seq ?_))
      obtain⟨r19,hr19,h⟩:=au h
      refine rc [] 2 [1,3,9,12,15,24,25,28] [9,15,25] [(1,ls a1),(3,.str a3),(9,.own 9 0),(12,ls r8.2),(15,.own 15 0),(24,ls r17.2),(25,.own 25 0),(28,vb r19.2)] [(9,31,(ay r5)),(15,25,qc6 r12.1),(25,25,qc6 r18.1)] (iO n r18.1 a3 _ hr19) (To.ah (Wp.seq ?_))
      obtain⟨r20,hr20,h⟩:=au h
      obtain⟨r21,hr21,h⟩:=au h
      obtain⟨r22,hr22,h⟩:=au h
      obtain⟨x23,hx23,h⟩:=aS h
      refine Wp.bI hm hΓ [(22,ls [a3]),(24,ls r20),(25,vb r21),(30,vb r22)] [8] [] (K':=[(8,vb (bif (bif (bif ((List.length r17.2:Int)==0) then((IntKind.wrap .i64 ((List.length r12.1.ak:Int)+(List.length r8.2:Int)))==(List.length r18.1.ak:Int)) else false) then(r21==r19.2) else false) then r22 else false))]) (L':=[]) (ob:=[(((bif ((List.length r17.2:Int)==0) then((IntKind.wrap .i64 ((List.length r12.1.ak:Int)+(List.length r8.2:Int)))==(List.length r18.1.ak:Int)) else false)==true)=true->ck 1 [.str a3] 1 (ls [a3])/\aM (ls [a3])),(((bif ((List.length r17.2:Int)==0) then((IntKind.wrap .i64 ((List.length r12.1.ak:Int)+(List.length r8.2:Int)))==(List.length r18.1.ak:Int)) else false)==true)=true->CX Tryz.prog 15 [.agg [vi r5.f_N.av,.str r5.f_N.aC,ls r5.f_N.ak,tn4 r5.f_N.aj],ls [a3],ls a1] (ls r20)),(((bif ((List.length r17.2:Int)==0) then((IntKind.wrap .i64 ((List.length r12.1.ak:Int)+(List.length r8.2:Int)))==(List.length r18.1.ak:Int)) else false)==true)=true->CX Tryz.prog 17 [.agg [vi r5.f_N.av,.str r5.f_N.aC,ls r5.f_N.ak,tn4 r5.f_N.aj],.str a3,ls r20] (vb r21)),(((bif (bif ((List.length r17.2:Int)==0) then((IntKind.wrap .i64 ((List.length r12.1.ak:Int)+(List.length r8.2:Int)))==(List.length r18.1.ak:Int)) else false) then(r21==r19.2) else false)==true)=true->CX Tryz.prog 7 [] (vb r22))]) (by kernel_rfl) (ai.cons (fun _=>du (by kernel_rfl) rfl (by kernel_rfl) (aI _)) (ai.cons (fun hg=>cx (LM n r5.f_N [a3] a1 _ (jB hg hr20))) (ai.cons (fun hg=>cx (Fv n r5.f_N a3 r20 _ (jB hg hr21))) (ai.cons (fun hg=>cx (uq n  _ (jB hg hr22))) ai.nil)))) (To.eq (K':=[(8,vb x23)]) (L':=[]) (by cases hx23;rfl) (by cases hx23;rfl) (To.ah (Wp.ret ?_)))
      cases h
      exact To.done hΓ (by kernel_rfl)
     ·replace h:=cy h
      refine To.aP (To.aA ?_)
      cases h
      exact To.done hΓ (by kernel_rfl)
    ·replace h:=cy h
     refine To.aP (To.aA ?_)
     cases h
     exact To.done hΓ (by kernel_rfl)
theorem PE:qg Tryz.prog 3 (fun n:Int=>IntKind.min .i64<=n/\n<=IntKind.max .i64) (fun n=>[.val (.int .i64 n)]):=P9 (by kernel_rfl)
theorem vS:qg Tryz.prog 9 (fun l:Bs=>l.length<=maxLen) (fun l=>[.str l]):=Qy (by kernel_rfl)
def rU(l:Ls):Prop:=l.length<=maxLen/\∀x∈l,(List.length x<=maxLen)
theorem vh:qg Tryz.prog 22 rU (fun l=>[.recs (α:=Bs) [] aW l]):=ML (α:=Bs) (cells:=aW) [] (by kernel_rfl) (by kernel_rfl) (of_decide_eq_true (by kernel_rfl)) vS
inductive sj:af->Prop
 |mk (x:af) (h:(IntKind.min .i64<=x.av/\x.av<=IntKind.max .i64)/\(List.length x.aC<=maxLen)/\(rU x.ak)) (hl:x.aj.length<=maxLen) (hk:∀y∈x.aj,sj y):sj x
theorem Iz:qg Tryz.prog 25 sj zh:=by
 refine Pv fun N ih=>?_
 intro H enc W fuel cs d ps hN h
 obtain⟨hl,hf⟩:=Py Tryz.underlying25 hN h
 have hl:cs.length=4:=hl.trans (by kernel_rfl)
 obtain⟨x0,w0,r0⟩:=hf 0 _ rfl (PE.n N)
 have r0:=JK (a':=0) (b':=1) r0 (by kernel_rfl) (by kernel_rfl)
 obtain⟨x1,w1,r1⟩:=hf 1 _ rfl (vS.n N)
 have r1:=JK (a':=1) (b':=1) r1 (by kernel_rfl) (by kernel_rfl)
 obtain⟨x2,w2,r2⟩:=hf 2 _ rfl (vh.n N)
 have r2:=JK (a':=2) (b':=1) r2 (by kernel_rfl) (by kernel_rfl)
 obtain⟨x3,w3,r3⟩:=hf 3 _ rfl (LN (α:=af) (pre:=fF) (kids:=eQ) (af.mk 0 [] [] []) Tryz.underlying23 (by kernel_rfl) (of_decide_eq_true (by kernel_rfl)) ih)
 have r3:=JK (a':=3) (b':=1) r3 (by kernel_rfl) (by kernel_rfl)
 refine⟨⟨x0,x1,x2,x3⟩,.mk _ ⟨w0,w1,w2⟩ w3.1 w3.2,?_⟩
 exact parts_all (l:=[([.val (.int .i64 x0)],1),([.str x1],1),([.recs (α:=Bs) [] aW x2],1),([.tree (α:=af) (af.mk 0 [] [] []) fF eQ x3],1)]) ⟨r0,r1,r2,r3,Nat.le_of_eq hl⟩ rfl
end Go.Proofs.YtpmmhhmhckpnfaaGreat.M
