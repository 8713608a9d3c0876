import Derived.Test.YtpmmhhmhckpnfaaGreatQM23g
set_option linter.all false
namespace Go.Proofs.YtpmmhhmhckpnfaaGreat.M
open Go.RowKit Go.Proofs.YtpmmhhmhckpnfaaGreat.RX
set_option maxRecDepth 100000
abbrev UR(x0:Bs):Nat×Nat×List D:=(2,31,[vi 0,.str [],.val (.slice none 0 0),.val (.slice none 0 0),.str x0,vi 10])
variable {F0:Fz} {w0:Pt Tryz.prog} {Q:Exit->Act->World->Prop}
theorem Ee(n:Nat)(v4:Int)(v5:Bs)(v60:Bool)(b1:af)(b2:aC)(b3:af)(b6:af)(o:Sum (aC×af) (aC))(h:nZ n v4 v5 v60 b1 b2 b3 b6=some o)(hQ:(Sum.elim (fun s=>To 104 F0 w0 [(1,.own 1 0),(2,.own 2 0),(3,.own 3 0),(4,vi v4),(5,.str v5),(6,.own 6 0)] [(1,25,qc6 b1),(2,31,qK s.1),(3,25,qc6 b3),(6,25,qc6 s.2)] .normal Q) (fun s=>To 104 F0 w0 [(2,.own 2 0)] [(2,31,qK s)] .ret Q)) o):Wp Tryz.prog 104 F0 w0 [(1,.own 1 0),(2,.own 2 0),(3,.own 3 0),(4,vi v4),(5,.str v5),(6,.own 6 0),(60,vb v60)] [(1,25,qc6 b1),(2,31,(ay b2)),(3,25,qc6 b3),(6,25,qc6 b6)] (cB (cA (cB (cB (cB (cB (cI (cA (cB (cI (cI (cB (cA (cB (cB (cB (cF Tryz.f8))))))))))))))))) Q:=by
 unfold nZ at h
 refine cn h (fun h=>?_) (fun h=>?_)
 ·refine Wp.seq ?_
  obtain⟨r3,hr3,h⟩:=au h
  refine rc [] 1 [1,2,3,4,5,6,7] [1,2,3,6,7] [(1,.own 1 0),(2,.own 2 0),(3,.own 3 0),(4,vi v4),(5,.str v5),(6,.own 6 0),(7,.own 7 0)] [(1,25,qc6 b1),(2,31,(ay b2)),(3,25,qc6 b3),(6,25,qc6 b6),(7,31,(ay r3))] (Cj n b6 _ hr3) (To.ah (Wp.seq (Wp.seq (rg [1,2,3,4,5,6,7,65] [1,2,3,6,7] [(1,.own 1 0),(2,.own 2 0),(3,.own 3 0),(4,vi v4),(5,.str v5),(6,.own 6 0),(7,.own 7 0),(65,vb (r3.f_E != 0))] [(1,25,qc6 b1),(2,31,(ay b2)),(3,25,qc6 b3),(6,25,qc6 b6),(7,31,(ay r3))] (To.ah (cn h (fun h=>?_) (fun h=>?_)))))))
  ·refine Wp.seq (rg [2] [2] [(2,.own 2 0)] [(2,31,(ay r3))] (To.ah (Wp.ret (To.aA ?_))))
   cases h
   exact hQ
  ·refine Wp.skip (To.ah (rg [1,2,3,4,5,6] [1,2,3,6] [(1,.own 1 0),(2,.own 2 0),(3,.own 3 0),(4,vi v4),(5,.str v5),(6,.own 6 0)] [(1,25,qc6 b1),(2,31,(ay b2)),(3,25,qc6 b3),(6,25,[vi r3.f_N.av,.str r3.f_N.aB,ls r3.f_N.aj,tn4 r3.f_N.ak])] (kt [1,2,3,4,5,6] [1,2,3,6] [(1,.own 1 0),(2,.own 2 0),(3,.own 3 0),(4,vi v4),(5,.str v5),(6,.own 6 0)] [(1,25,qc6 b1),(2,31,(ay b2)),(3,25,qc6 b3),(6,25,[vi r3.f_N.av,.str r3.f_N.aB,ls r3.f_N.aj,tn4 r3.f_N.ak])] ?_)))
   cases h
   exact hQ
 ·refine Wp.seq (rg [1,2,3,4,5,6,70] [1,2,3,6] [(1,.own 1 0),(2,.own 2 0),(3,.own 3 0),(4,vi v4),(5,.str v5),(6,.own 6 0),(70,vb (v5==[110,97,109,101]))] [(1,25,qc6 b1),(2,31,(ay b2)),(3,25,qc6 b3),(6,25,qc6 b6)] (To.ah (cn h (fun h=>?_) (fun h=>?_))))
  ·refine Wp.seq ?_
   obtain⟨r4,hr4,h⟩:=au h
   refine rr [] [(6,vb r4)] [] [1,2,3,4,5,6,79] [1,2,3,6] [(1,.own 1 0),(2,.own 2 0),(3,.own 3 0),(4,vi v4),(5,.str v5),(6,.own 6 0),(79,vb (bif (b6.av != 1) then true else(!r4)))] [(1,25,qc6 b1),(2,31,(ay b2)),(3,25,qc6 b3),(6,25,qc6 b6)] [(((b6.av != 1)==false)=true->CX Tryz.prog 28 [.str b6.aB] (vb r4))] (ai.cons (fun hg=>cx (Fe n b6.aB _ (iR hg hr4))) ai.nil) (To.ah (cn h (fun h=>?_) (fun h=>?_)))
   ·refine Wp.seq (rg [2] [2] [(2,.own 2 0)] [(UR v5)] (To.ah (Wp.ret (To.weak (K':=[(2,.own 2 0)]) (L':=[(2,31,[vi 0,.str [],ls [],tn4 [],.str v5,vi 10])]) (.cons (.refl _) .nil) (.cons (.cons (.refl _) (.cons (.refl _) (.cons (.zero _ _) (.cons (.bu _ _ _) (.cons (.refl _) (.cons (.refl _) .nil)))))) .nil) ?_))))
    cases h
    exact hQ
   ·refine Wp.skip (kt [1,2,3,4,5,6] [1,2,3,6] [(1,.own 1 0),(2,.own 2 0),(3,.own 3 0),(4,vi v4),(5,.str v5),(6,.own 6 0)] [(1,25,qc6 b1),(2,31,(ay b2)),(3,25,qc6 b3),(6,25,qc6 b6)] ?_)
    cases h
    exact hQ
  ·refine Wp.seq ?_
   obtain⟨r5,hr5,h⟩:=au h
   refine rc [] 1 [1,2,3,4,5,6,8,9] [1,2,3,6,8] [(1,.own 1 0),(2,.own 2 0),(3,.own 3 0),(4,vi v4),(5,.str v5),(6,.own 6 0),(8,.own 8 0),(9,vb r5.2)] [(1,25,qc6 b1),(2,31,(ay b2)),(3,25,qc6 b3),(6,25,qc6 b6),(8,25,qc6 r5.1)] (Ac n b6 _ hr5) (To.ah (Wp.seq (Wp.seq (rg [1,2,3,4,5,6,8,88] [1,2,3,6,8] [(1,.own 1 0),(2,.own 2 0),(3,.own 3 0),(4,vi v4),(5,.str v5),(6,.own 6 0),(8,.own 8 0),(88,vb (!r5.2))] [(1,25,qc6 b1),(2,31,(ay b2)),(3,25,qc6 b3),(6,25,qc6 b6),(8,25,qc6 r5.1)] (To.ah (cn h (fun h=>?_) (fun h=>?_)))))))
   ·refine Wp.seq (rg [2] [2] [(2,.own 2 0)] [(UR v5)] (To.ah (Wp.ret (To.aA (To.weak (K':=[(2,.own 2 0)]) (L':=[(2,31,[vi 0,.str [],ls [],tn4 [],.str v5,vi 10])]) (.cons (.refl _) .nil) (.cons (.cons (.refl _) (.cons (.refl _) (.cons (.zero _ _) (.cons (.bu _ _ _) (.cons (.refl _) (.cons (.refl _) .nil)))))) .nil) ?_)))))
    cases h
    exact hQ
   ·refine Wp.skip (To.ah (rg [1,2,3,4,5,6] [1,2,3,6] [(1,.own 1 0),(2,.own 2 0),(3,.own 3 0),(4,vi v4),(5,.str v5),(6,.own 6 0)] [(1,25,qc6 b1),(2,31,(ay b2)),(3,25,qc6 b3),(6,25,qc6 r5.1)] (kt [1,2,3,4,5,6] [1,2,3,6] [(1,.own 1 0),(2,.own 2 0),(3,.own 3 0),(4,vi v4),(5,.str v5),(6,.own 6 0)] [(1,25,qc6 b1),(2,31,(ay b2)),(3,25,qc6 b3),(6,25,qc6 r5.1)] ?_)))
    cases h
    exact hQ
def ot(n:Nat)(v4:Int)(b1:af)(b2:aC)(b3:af):Option (Sum (aC×af) (aC)) :=
 if(decide (0<=v4/\v4<(List.length b1.aj:Int)))=true then(if(decide (0<=v4/\v4<(List.length b1.ak:Int)))=true then((lW n ((b1.aj)[Int.toNat v4]?.getD [])).bind fun r1 =>
 if r1=true then(some (.inl (b2,b3)))
 else(aS ((bif (bif (bif (!(((b1.aj)[Int.toNat v4]?.getD [])==[110,97,109,101])) then(!(((b1.aj)[Int.toNat v4]?.getD [])==kF)) else false) then(!(((b1.aj)[Int.toNat v4]?.getD [])==xM)) else false) then(!(((b1.aj)[Int.toNat v4]?.getD [])==xx)) else false):Bool) fun x2 =>
 if x2=true then(some (.inr (aC.mk (af.mk 0 [] [] []) ((b1.aj)[Int.toNat v4]?.getD []) 10)))
 else(if((((b1.ak)[Int.toNat v4]?.getD (af.mk 0 [] [] [])).av)==0)=true then(some (.inl (b2,b3)))
 else((nZ n v4 ((b1.aj)[Int.toNat v4]?.getD []) (((b1.aj)[Int.toNat v4]?.getD [])==kF) b1 b2 b3 ((b1.ak)[Int.toNat v4]?.getD (af.mk 0 [] [] []))).bind fun o3 =>
 (Sum.elim (fun o3=>(dA n b3 ((b1.aj)[Int.toNat v4]?.getD []) o3.2).bind fun r4 =>
 some (.inl (o3.1,r4))) (fun o3=>some (.inr o3))) o3)))) else none) else none
abbrev EM(x0:af)(x1:Int):Nat×Nat×List D:=(6,25,[vi ((ex5 x0 x1).av),.str ((ex5 x0 x1).aB),ls ((ex5 x0 x1).aj),tn4 ((ex5 x0 x1).ak)])
theorem Ft(n:Nat)(v4:Int)(b1:af)(b2:aC)(b3:af)(o:Sum (aC×af) (aC))(h:ot n v4 b1 b2 b3=some o)(hQ:(Sum.elim (fun s=>To 104 F0 w0 [(1,.own 1 0),(2,.own 2 0),(3,.own 3 0),(4,vi v4)] [(1,25,qc6 b1),(2,31,qK s.1),(3,25,qc6 s.2)] .normal Q) (fun s=>To 104 F0 w0 [(2,.own 2 0)] [(2,31,qK s)] .ret Q)) o):Wp Tryz.prog 104 F0 w0 [(1,.own 1 0),(2,.own 2 0),(3,.own 3 0),(4,vi v4)] [(1,25,qc6 b1),(2,31,(ay b2)),(3,25,qc6 b3)] (cA (cB (cI (cI (cB (cA (cB (cB (cB (cF Tryz.f8)))))))))) Q:=by
 unfold ot at h
 refine Wp.block (Wp.seq ?_)
 obtain⟨hc5,h⟩:=ax h
 obtain⟨hc6,h⟩:=ax h
 refine Wp.bG hm hΓ [] [1,2,3,4,5,6] [1,2,3,6] (K':=[(1,.own 1 0),(2,.own 2 0),(3,.own 3 0),(4,vi v4),(5,.str (cv b1 v4)),(6,.own 6 0)]) (L':=[(1,25,qc6 b1),(2,31,(ay b2)),(3,25,qc6 b3),(EM b1 v4)]) (ob:=[(FH v4 b1)=true,(ex6 v4 b1)=true]) (by kernel_rfl) (ai.cons hc5 (ai.cons hc6 ai.nil)) (To.ah (Wp.seq (Wp.seq ?_)))
 obtain⟨r1,hr1,h⟩:=au h
 refine rc [] 1 [1,2,3,4,5,6,39] [1,2,3,6] [(1,.own 1 0),(2,.own 2 0),(3,.own 3 0),(4,vi v4),(5,.str (cv b1 v4)),(6,.own 6 0),(39,vb r1)] [(1,25,qc6 b1),(2,31,(ay b2)),(3,25,qc6 b3),(EM b1 v4)] (wM n (cv b1 v4) _ hr1) (To.ah (cn h (fun h=>?_) (fun h=>?_)))
 ·refine Wp.exit (To.aK (To.aX (kt [1,2,3,4] [1,2,3] [(1,.own 1 0),(2,.own 2 0),(3,.own 3 0),(4,vi v4)] [(1,25,qc6 b1),(2,31,(ay b2)),(3,25,qc6 b3)] ?_)))
  cases h
  exact hQ
 ·refine Wp.skip (To.ah (Wp.seq (Wp.seq ?_)))
  obtain⟨x2,hx2,h⟩:=aW h
  refine rg [1,2,3,4,5,6,53] [1,2,3,6] [(1,.own 1 0),(2,.own 2 0),(3,.own 3 0),(4,vi v4),(5,.str (cv b1 v4)),(6,.own 6 0),(53,vb (bif (bif (bif (!((cv b1 v4)==[110,97,109,101])) then(!((cv b1 v4)==kF)) else false) then(!((cv b1 v4)==xM)) else false) then(!((cv b1 v4)==xx)) else false))] [(1,25,qc6 b1),(2,31,(ay b2)),(3,25,qc6 b3),(EM b1 v4)] (To.eq (K':=[(1,.own 1 0),(2,.own 2 0),(3,.own 3 0),(4,vi v4),(5,.str (cv b1 v4)),(6,.own 6 0),(53,vb x2)]) (L':=[(1,25,qc6 b1),(2,31,(ay b2)),(3,25,qc6 b3),(EM b1 v4)]) (by cases hx2;rfl) (by cases hx2;rfl) (To.ah (cn h (fun h=>?_) (fun h=>?_))))
  ·refine Wp.seq (rg [2] [2] [(2,.own 2 0)] [(RD b1 v4)] (To.ah (Wp.ret (To.aA (To.aQ (To.weak (K':=[(2,.own 2 0)]) (L':=[(2,31,[vi 0,.str [],ls [],tn4 [],.str (cv b1 v4),vi 10])]) (.cons (.refl _) .nil) (.cons (.cons (.refl _) (.cons (.refl _) (.cons (.zero _ _) (.cons (.bu _ _ _) (.cons (.refl _) (.cons (.refl _) .nil)))))) .nil) ?_))))))
   cases h
   exact hQ
  ·refine Wp.skip (To.ah (Wp.seq (Wp.seq (rg [1,2,3,4,5,6,58] [1,2,3,6] [(1,.own 1 0),(2,.own 2 0),(3,.own 3 0),(4,vi v4),(5,.str (cv b1 v4)),(6,.own 6 0),(58,vb (((ex5 b1 v4).av)==0))] [(1,25,qc6 b1),(2,31,(ay b2)),(3,25,qc6 b3),(EM b1 v4)] (To.ah (cn h (fun h=>?_) (fun h=>?_)))))))
   ·refine Wp.exit (To.aK (To.aX (kt [1,2,3,4] [1,2,3] [(1,.own 1 0),(2,.own 2 0),(3,.own 3 0),(4,vi v4)] [(1,25,qc6 b1),(2,31,(ay b2)),(3,25,qc6 b3)] ?_)))
    cases h
    exact hQ
   ·refine Wp.skip (To.ah (Wp.seq (Wp.seq (rg [1,2,3,4,5,6,60] [1,2,3,6] [(1,.own 1 0),(2,.own 2 0),(3,.own 3 0),(4,vi v4),(5,.str (cv b1 v4)),(6,.own 6 0),(60,vb ((cv b1 v4)==kF))] [(1,25,qc6 b1),(2,31,(ay b2)),(3,25,qc6 b3),(EM b1 v4)] (To.ah ?_)))))
    obtain⟨o3,ho3,h⟩:=au h
    refine kw [1,2,3,4,5,6,60] [1,2,3,6] [(1,.own 1 0),(2,.own 2 0),(3,.own 3 0),(4,vi v4),(5,.str (cv b1 v4)),(6,.own 6 0),(60,vb ((cv b1 v4)==kF))] [(1,25,qc6 b1),(2,31,(ay b2)),(3,25,qc6 b3),(EM b1 v4)] (Ee n v4 (cv b1 v4) ((cv b1 v4)==kF) b1 b2 b3 (ex5 b1 v4) o3 ho3 ?_)
    rcases o3 with o3|o3
    ·replace h:=cy h
     refine To.ah ?_
     obtain⟨r4,hr4,h⟩:=au h
     refine rc [] 3 [1,2,3,4] [1,2,3] [(1,.own 1 0),(2,.own 2 0),(3,.own 3 0),(4,vi v4)] [(1,25,qc6 b1),(2,31,(ay o3.1)),(3,25,qc6 r4)] (dH n b3 (cv b1 v4) o3.2 _ hr4) (To.aO ?_)
     cases h
     exact hQ
    ·replace h:=cH h
     refine To.aA (To.aQ (kt [2] [2] [(2,.own 2 0)] [(2,31,(ay o3))] ?_))
     cases h
     exact hQ
def gx(n:Nat)(b1:af):Nat->Int->aC->af->Option (Sum (aC×af) (aC))
 |0,_,_,_=>none
 |k+1,v4,b2,b3=>if(decide (v4<(List.length b1.aj:Int)))=true then((ot n v4 b1 b2 b3).bind fun o1 =>
 (Sum.elim (fun o1=>gx n b1 k (IntKind.wrap .i64 (v4+1)) o1.1 o1.2) (fun o1=>some (.inr o1))) o1)
 else(some (.inl (b2,b3)))
theorem Ea(n:Nat)(b1:af)(k:Nat):∀(v4:Int)(b2:aC)(b3:af)(o:Sum (aC×af) (aC)),gx n b1 k v4 b2 b3=some o->(Sum.elim (fun s=>To 104 F0 w0 [(2,.own 2 0),(3,.own 3 0)] [(2,31,qK s.1),(3,25,qc6 s.2)] (.exit 0) Q) (fun s=>To 104 F0 w0 [(2,.own 2 0)] [(2,31,qK s)] .ret Q)) o->WL Tryz.prog 104 F0 w0 [(1,.own 1 0),(2,.own 2 0),(3,.own 3 0),(4,vi v4)] [(1,25,qc6 b1),(2,31,(ay b2)),(3,25,qc6 b3)] (cI (cI (cB (cA (cB (cB (cB (cF Tryz.f8)))))))) Q:=by
 induction k with
 |zero=>intro v4 b2 b3 o h;cases h
 |succ k ih =>
  intro v4 b2 b3 o h hQ
  rw[gx] at h
  refine WL.round (Wp.seq (Wp.seq (rg [1,2,3,4,25] [1,2,3] [(1,.own 1 0),(2,.own 2 0),(3,.own 3 0),(4,vi v4),(25,vb (xq v4 b1))] [(1,25,qc6 b1),(2,31,(ay b2)),(3,25,qc6 b3)] (To.ah (cn h (fun h=>?_) (fun h=>?_))))))
  ·refine Wp.skip (To.ah (Wp.seq ?_))
   obtain⟨o1,ho1,h⟩:=au h
   refine kw [1,2,3,4] [1,2,3] [(1,.own 1 0),(2,.own 2 0),(3,.own 3 0),(4,vi v4)] [(1,25,qc6 b1),(2,31,(ay b2)),(3,25,qc6 b3)] (Ft n v4 b1 b2 b3 o1 ho1 ?_)
   rcases o1 with o1|o1
   ·replace h:=cy h
    refine To.ah (rg [1,2,3,4] [1,2,3] [(1,.own 1 0),(2,.own 2 0),(3,.own 3 0),(lN v4)] [(1,25,qc6 b1),(2,31,(ay o1.1)),(3,25,qc6 o1.2)] (kt [1,2,3,4] [1,2,3] [(1,.own 1 0),(2,.own 2 0),(3,.own 3 0),(lN v4)] [(1,25,qc6 b1),(2,31,(ay o1.1)),(3,25,qc6 o1.2)] (To.again ?_)))
    exact ih (IntKind.wrap .i64 (v4+1)) o1.1 o1.2 _ h hQ
   ·replace h:=cH h
    refine To.aA (To.aA (kt [2] [2] [(2,.own 2 0)] [(2,31,(ay o1))] ?_))
    cases h
    exact hQ
  ·refine Wp.exit (To.aK (To.aK (kt [2,3] [2,3] [(2,.own 2 0),(3,.own 3 0)] [(2,31,(ay b2)),(3,25,qc6 b3)] ?_)))
   cases h
   exact hQ
def ux(n:Nat)(a0:af):Option (aC) :=
 if(bif (a0.av != 0) then(a0.av != 3) else false)=true then(some (aC.mk (af.mk 0 [] [] []) [] 10))
 else((gx n a0 n 0 (aC.mk (af.mk 0 [] [] []) [] 0) (af.mk 3 [] [] [])).bind fun o1 =>
 (Sum.elim (fun o1=>(dK n o1.2).bind fun r2 =>
 (rC n r2).bind fun r3 =>
 if(!r3)=true then(some (aC.mk (af.mk 0 [] [] []) [] 9))
 else(some (aC.mk r2 [] 0))) (fun o1=>some o1)) o1)
theorem JX(n:Nat)(a0:af)(r:aC)(h:ux n a0=some r):aJ Tryz.prog 8 [.agg (qc6 a0)] (.agg (qK r)):=by
 unfold ux at h
 refine xo Tryz.f8 rfl fun F0 w0 _=>?_
 refine Wp.seq (rg [1,2] [1,2] [(1,.own 1 0),(2,.own 2 0)] [(1,25,qc6 a0),(2,31,[vi 0,.str [],.val (.slice none 0 0),.val (.slice none 0 0),.str [],vi 0])] (To.ah (Wp.seq (Wp.seq (rg [1,2,18] [1,2] [(1,.own 1 0),(2,.own 2 0),(18,vb (RV a0))] [(1,25,qc6 a0),(2,31,[vi 0,.str [],.val (.slice none 0 0),.val (.slice none 0 0),.str [],vi 0])] (To.ah (cn h (fun h=>?_) (fun h=>?_))))))))
 ·refine Wp.seq (rg [2] [2] [(2,.own 2 0)] [(2,31,[vi 0,.str [],.val (.slice none 0 0),.val (.slice none 0 0),.str [],vi 10])] (To.ah (Wp.ret (To.aA (To.weak (K':=[(2,.own 2 0)]) (L':=[(2,31,[vi 0,.str [],ls [],tn4 [],.str [],vi 10])]) (.cons (.refl _) .nil) (.cons (.cons (.refl _) (.cons (.refl _) (.cons (.zero _ _) (.cons (.bu _ _ _) (.cons (.refl _) (.cons (.refl _) .nil)))))) .nil) ?_)))))
  cases h
  exact To.done hΓ (by kernel_rfl)
 ·refine Wp.skip (To.ah (Wp.seq (rg [1,2,3] [1,2,3] [(1,.own 1 0),(2,.own 2 0),(3,.own 3 0)] [(1,25,qc6 a0),(2,31,[vi 0,.str [],.val (.slice none 0 0),.val (.slice none 0 0),.str [],vi 0]),(3,25,[vi 3,.str [],.val (.slice none 0 0),.val (.slice none 0 0)])] (To.ah (Wp.seq (Wp.seq (rg [1,2,3,4] [1,2,3] [(1,.own 1 0),(2,.own 2 0),(3,.own 3 0),(4,vi 0)] [(1,25,qc6 a0),(2,31,[vi 0,.str [],.val (.slice none 0 0),.val (.slice none 0 0),.str [],vi 0]),(3,25,[vi 3,.str [],.val (.slice none 0 0),.val (.slice none 0 0)])] (To.ah (Wp.block ?_)))))))))
  obtain⟨o1,ho1,h⟩:=au h
  refine kw [1,2,3,4] [1,2,3] [(1,.own 1 0),(2,.own 2 0),(3,.own 3 0),(4,vi 0)] [(1,25,qc6 a0),(2,31,[vi 0,.str [],.val (.slice none 0 0),.val (.slice none 0 0),.str [],vi 0]),(3,25,[vi 3,.str [],.val (.slice none 0 0),.val (.slice none 0 0)])] (Wp.weak (K':=[(1,.own 1 0),(2,.own 2 0),(3,.own 3 0),(4,vi 0)]) (L':=[(1,25,qc6 a0),(2,31,[vi 0,.str [],ls [],tn4 [],.str [],vi 0]),(3,25,[vi 3,.str [],ls [],tn4 []])]) (.cons (.refl _) (.cons (.refl _) (.cons (.refl _) (.cons (.refl _) .nil)))) (.cons (.cons (.refl _) (.cons (.refl _) (.cons (.refl _) (.cons (.refl _) .nil)))) (.cons (.cons (.refl _) (.cons (.refl _) (.cons (.zero _ _) (.cons (.bu _ _ _) (.cons (.refl _) (.cons (.refl _) .nil)))))) (.cons (.cons (.refl _) (.cons (.refl _) (.cons (.zero _ _) (.cons (.bu _ _ _) .nil)))) .nil))) (Wp.bC (Ea n a0 n 0 (aC.mk zx3 [] 0) (af.mk 3 [] [] []) o1 ho1 ?_)))
  rcases o1 with o1|o1
  ·replace h:=cy h
   refine To.aX (To.ah (Wp.seq ?_))
   obtain⟨r2,hr2,h⟩:=au h
   refine rc [] 1 [2,10] [2,10] [(2,.own 2 0),(10,.own 10 0)] [(2,31,(ay o1.1)),(10,25,qc6 r2)] (pg n o1.2 _ hr2) (To.ah (Wp.seq (Wp.seq ?_)))
   obtain⟨r3,hr3,h⟩:=au h
   refine rc [] 1 [2,10,100] [2,10] [(2,.own 2 0),(10,.own 10 0),(100,vb (!r3))] [(2,31,(ay o1.1)),(10,25,qc6 r2)] (HE n r2 _ hr3) (To.ah (cn h (fun h=>?_) (fun h=>?_)))
   ·refine Wp.seq (rg [2] [2] [(2,.own 2 0)] [(2,31,[vi 0,.str [],.val (.slice none 0 0),.val (.slice none 0 0),.str [],vi 9])] (To.ah (Wp.ret (To.aA (To.weak (K':=[(2,.own 2 0)]) (L':=[(2,31,[vi 0,.str [],ls [],tn4 [],.str [],vi 9])]) (.cons (.refl _) .nil) (.cons (.cons (.refl _) (.cons (.refl _) (.cons (.zero _ _) (.cons (.bu _ _ _) (.cons (.refl _) (.cons (.refl _) .nil)))))) .nil) ?_)))))
    cases h
    exact To.done hΓ (by kernel_rfl)
   ·refine Wp.skip (To.ah (Wp.seq (rg [2] [2] [(2,.own 2 0)] [(2,31,[vi r2.av,.str r2.aB,ls r2.aj,tn4 r2.ak,.str [],vi 0])] (To.ah (Wp.ret ?_)))))
    cases h
    exact To.done hΓ (by kernel_rfl)
  ·replace h:=cH h
   refine To.aQ (To.aA ?_)
   cases h
   exact To.done hΓ (by kernel_rfl)
def iZ(n:Nat)(a0:af):Option (af) :=
 (jI n a0 kF).bind fun r1 =>
 some r1.1
theorem mP(n:Nat)(a0:af)(r:af)(h:iZ n a0=some r):aJ Tryz.prog 37 [.agg (qc6 a0)] (.agg (qc6 r)):=by
 unfold iZ at h
 refine xo Tryz.f37 rfl fun F0 w0 _=>?_
 refine Wp.seq (rg [1,2] [1,2] [(1,.own 1 0),(2,.own 2 0)] [(1,25,qc6 a0),(2,25,[vi 0,.str [],.val (.slice none 0 0),.val (.slice none 0 0)])] (To.ah (Wp.seq ?_)))
 obtain⟨r1,hr1,h⟩:=au h
 refine rc [] 1 [2,3] [2,3] [(2,.own 2 0),(3,.own 3 0)] [(2,25,[vi 0,.str [],.val (.slice none 0 0),.val (.slice none 0 0)]),(3,25,qc6 r1.1)] (j6 n a0 kF _ hr1) (To.ah (Wp.seq (rg [2] [2] [(2,.own 2 0)] [(2,25,qc6 r1.1)] (To.ah (Wp.ret ?_)))))
 cases h
 exact To.done hΓ (by kernel_rfl)
def jU(n:Nat)(a0:af):Option ((Ls)) :=
 (jI n a0 qJ).bind fun r1 =>
 some r1.1.aj
theorem qO(n:Nat)(a0:af)(r:(Ls))(h:jU n a0=some r):aJ Tryz.prog 42 [.agg (qc6 a0)] (ls r):=by
 unfold jU at h
 refine xo Tryz.f42 rfl fun F0 w0 _=>?_
 refine Wp.seq (rg [1] [1] [(1,.own 1 0)] [(1,25,qc6 a0)] (To.ah (Wp.seq ?_)))
 obtain⟨r1,hr1,h⟩:=au h
 refine rc [] 1 [3] [3] [(3,.own 3 0)] [(3,25,qc6 r1.1)] (j6 n a0 qJ _ hr1) (To.ah (Wp.seq (rg [2] [] [(2,ls r1.1.aj)] [] (To.ah (Wp.ret ?_)))))
 cases h
 exact To.done hΓ (by kernel_rfl)
def kS(n:Nat)(v1:Ls)(v5:Ls):Nat->Int->Option (Sum (Unit) (Bool))
 |0,_=>none
 |k+1,v6=>if(decide (v6<(List.length v5:Int)))=true then(if(decide (0<=v6/\v6<(List.length v5:Int)))=true then((nR n v1 ((v5)[Int.toNat v6]?.getD [])).bind fun r2 =>
 if r2=true then(some (.inr true))
 else(kS n v1 v5 k (IntKind.wrap .i64 (v6+1)))) else none)
 else(some (.inl ()))
theorem Ij(n:Nat)(v1:Ls)(v5:Ls)(k:Nat):∀(v6:Int)(o:Sum (Unit) (Bool)),kS n v1 v5 k v6=some o->(Sum.elim (fun s=>To 24 F0 w0 [(5,ls v5)] [] (.exit 0) Q) (fun s=>To 24 F0 w0 [(4,vb s)] [] .ret Q)) o->WL Tryz.prog 24 F0 w0 [(1,ls v1),(5,ls v5),(6,vi v6)] [] (cI (cI (cB (cA (cB (cB (cF Tryz.f38))))))) Q:=by
 induction k with
 |zero=>intro v6 o h;cases h
 |succ k ih =>
  intro v6 o h hQ
  rw[kS] at h
  refine WL.round (Wp.seq (Wp.seq (rg [1,5,6,12] [] [(1,ls v1),(5,ls v5),(6,vi v6),(12,vb (ex4 v6 v5))] [] (To.ah (cn h (fun h=>?_) (fun h=>?_))))))
  ·refine Wp.skip (To.ah (Wp.seq (Wp.block (Wp.seq ?_))))
   obtain⟨hc3,h⟩:=ax h
   obtain⟨r2,hr2,h⟩:=au h
   refine rr [] [(5,vb r2)] [] [1,5,6,20] [] [(1,ls v1),(5,ls v5),(6,vi v6),(20,vb r2)] [] [_,_] (ai.cons hc3 (ai.cons (c1 (vq n v1 ((v5)[Int.toNat v6]?.getD []) _ hr2)) ai.nil)) (To.ah (cn h (fun h=>?_) (fun h=>?_)))
   ·refine Wp.seq (rg [4] [] [(4,vb true)] [] (To.ah (Wp.ret (To.aQ (To.aA (To.aA ?_))))))
    cases h
    exact hQ
   ·refine Wp.skip (To.aO (To.ah (rg [1,5,6] [] [(1,ls v1),(5,ls v5),(qh v6)] [] (kt [1,5,6] [] [(1,ls v1),(5,ls v5),(qh v6)] [] (To.again ?_)))))
    exact ih (IntKind.wrap .i64 (v6+1)) _ h hQ
  ·refine Wp.exit (To.aK (To.aK (kt [5] [] [(5,ls v5)] [] ?_)))
   cases h
   exact hQ
def qa(n:Nat)(a0:af)(a1:Ls):Option (Bool) :=
 (jU n a0).bind fun r1 =>
 (kS n a1 r1 n 0).bind fun o2 =>
 (Sum.elim (fun o2=>some ((List.length r1:Int)==0)) (fun o2=>some o2)) o2
theorem xT(n:Nat)(a0:af)(a1:Ls)(r:Bool)(h:qa n a0 a1=some r):aJ Tryz.prog 38 [.agg (qc6 a0),ls a1] (vb r):=by
 unfold qa at h
 refine xo Tryz.f38 rfl fun F0 w0 _=>?_
 refine Wp.seq (rg [1,2] [2] [(1,ls a1),(2,.own 2 0)] [(2,25,qc6 a0)] (To.ah (Wp.seq ?_)))
 obtain⟨r1,hr1,h⟩:=au h
 refine rc [] 1 [1,5] [] [(1,ls a1),(5,ls r1)] [] (qO n a0 _ hr1) (To.ah (Wp.seq (Wp.seq (rg [1,5,6] [] [(1,ls a1),(5,ls r1),(6,vi 0)] [] (To.ah (Wp.block ?_))))))
 obtain⟨o2,ho2,h⟩:=au h
 refine kw [1,5,6] [] [(1,ls a1),(5,ls r1),(6,vi 0)] [] (Wp.bC (Ij n a1 r1 n 0 o2 ho2 ?_))
 rcases o2 with o2|o2
 ·replace h:=cy h
  refine To.aX (To.ah (Wp.seq (rg [4] [] [(4,vb ((List.length r1:Int)==0))] [] (To.ah (Wp.ret ?_)))))
  cases h
  exact To.done hΓ (by kernel_rfl)
 ·replace h:=cH h
  refine To.aQ (To.aA ?_)
  cases h
  exact To.done hΓ (by kernel_rfl)
def rQ(n:Nat)(v1:Bs)(v6:Int)(b2:af)(b4:af)(b5:af):Option (af) :=
 if(decide (0<=v6/\v6<(List.length b2.aj:Int)))=true then(if(!(((b2.aj)[Int.toNat v6]?.getD [])==v1))=true then(if(decide (0<=v6/\v6<(List.length b2.aj:Int)))=true then(if(decide ((List.length b5.aj+List.length ([((b2.aj)[Int.toNat v6]?.getD [])]:Ls))*(16+1)<=limit))=true then(if(decide (0<=v6/\v6<(List.length b2.ak:Int)))=true then(if(decide ((List.length b5.ak+List.length ([((b2.ak)[Int.toNat v6]?.getD (af.mk 0 [] [] []))]:List (af)))*(72+1)<=limit))=true then(some (af.mk b5.av b5.aB (b5.aj++([((b2.aj)[Int.toNat v6]?.getD [])]:Ls)) (b5.ak++([((b2.ak)[Int.toNat v6]?.getD (af.mk 0 [] [] []))]:List (af))))) else none) else none) else none) else none)
 else some b5) else none
theorem Ec(n:Nat)(v1:Bs)(v6:Int)(b2:af)(b4:af)(b5:af)(o:af)(h:rQ n v1 v6 b2 b4 b5=some o)(hQ:To 47 F0 w0 [(1,.str v1),(2,.own 2 0),(4,.own 4 0),(5,.own 5 0),(6,vi v6)] [(2,25,qc6 b2),(4,25,qc6 b4),(5,25,dh 4302 4303 o),(4302,9,[rc1 o.aj]),(4303,25,[rc9 o.ak])] .normal Q):Wp Tryz.prog 47 F0 w0 [(1,.str v1),(2,.own 2 0),(4,.own 4 0),(5,.own 5 0),(6,vi v6)] [(2,25,qc6 b2),(4,25,qc6 b4),(5,25,dh 4302 4303 b5),(4302,9,[rc1 b5.aj]),(4303,25,[rc9 b5.ak])] (cA (cB (cI (cI (cB (cA (cB (cB (cB (cF Tryz.f39)))))))))) Q:=by
 unfold rQ at h
 refine Wp.block (Wp.seq ?_)
 obtain⟨hc5,h⟩:=ax h
 refine r0 [1,2,4,5,6,25] [2,4,5,4302,4303] [(1,.str v1),(2,.own 2 0),(4,.own 4 0),(5,.own 5 0),(6,vi v6),(25,vb (!((cv b2 v6)==v1)))] [(2,25,qc6 b2),(4,25,qc6 b4),(5,25,dh 4302 4303 b5),(4302,9,[rc1 b5.aj]),(4303,25,[rc9 b5.ak])] (ai.cons hc5 ai.nil) (To.ah (cn h (fun h=>?_) (fun h=>?_)))
 ·refine Wp.seq ?_
  obtain⟨hc3,h⟩:=ax h
  obtain⟨hc4,h⟩:=ax h
  refine Wp.bG hm hΓ [(7,ls ([(cv b2 v6)])),(8,.row 34),(1008,ls (b5.aj++(jN b2 v6)))] [1,2,4,5,6] [2,4,5,34,4303] (K':=[(1,.str v1),(2,.own 2 0),(4,.own 4 0),(5,.own 5 0),(6,vi v6)]) (L':=[(2,25,qc6 b2),(4,25,qc6 b4),(5,25,dh 34 4303 b5),(34,9,[rc1 (b5.aj++(jN b2 v6))]),(4303,25,[rc9 b5.ak])]) (ob:=[(FH v6 b2)=true,(true=true->bY 1 [.str (cv b2 v6)] 1 (ls ([(cv b2 v6)]))/\aM (ls ([(cv b2 v6)]))),(decide ((List.length b5.aj+List.length (jN b2 v6))*(16+1)<=limit))=true,(fY [] aR b5.aj (List.flatMap aR (jN b2 v6)) (List.length (jN b2 v6)) (ls (b5.aj++(jN b2 v6)))/\aM (ls (b5.aj++(jN b2 v6))))]) (by kernel_rfl) (ai.cons hc3 (ai.cons (fun _=>df (by kernel_rfl) rfl (by kernel_rfl) (aH _)) (ai.cons hc4 (ai.cons (gV rfl rfl (aH _)) ai.nil)))) (To.ah ?_)
  obtain⟨hc1,h⟩:=ax h
  obtain⟨hc2,h⟩:=ax h
  refine Wp.bG hm hΓ [(7,rs8 ([(ex5 b2 v6)])),(8,.row 44),(1008,rs8 (ya b5 b2 v6))] [1,2,4,5,6] [2,4,5,34,44] (K':=[(1,.str v1),(2,.own 2 0),(4,.own 4 0),(5,.own 5 0),(6,vi v6)]) (L':=[(2,25,qc6 b2),(4,25,qc6 b4),(5,25,dh 34 44 b5),(34,9,[rc1 (b5.aj++(jN b2 v6))]),(44,25,[rc9 (ya b5 b2 v6)])]) (ob:=[(ex6 v6 b2)=true,(true=true->bY 4 [vi ((ex5 b2 v6).av),.str ((ex5 b2 v6).aB),ls ((ex5 b2 v6).aj),tn4 ((ex5 b2 v6).ak)] 1 (rs8 ([(ex5 b2 v6)]))/\aM (rs8 ([(ex5 b2 v6)]))),(decide ((List.length b5.ak+List.length ([(ex5 b2 v6)]:List (af)))*(72+1)<=limit))=true,(fY zx3 bX b5.ak (List.flatMap bX ([(ex5 b2 v6)]:List (af))) (List.length ([(ex5 b2 v6)]:List (af))) (rs8 (ya b5 b2 v6))/\aM (rs8 (ya b5 b2 v6)))]) (by kernel_rfl) (ai.cons hc1 (ai.cons (fun _=>df (by kernel_rfl) rfl (by kernel_rfl) (aY _)) (ai.cons hc2 (ai.cons (gV rfl rfl (aY _)) ai.nil)))) (To.aO (nt [1,2,4,5,6] [2,4,5,34,44] [(34,4302),(44,4303)] [1,2,4,5,6] [2,4,5,4302,4303] [(1,.str v1),(2,.own 2 0),(4,.own 4 0),(5,.own 5 0),(6,vi v6)] [(2,25,qc6 b2),(4,25,qc6 b4),(5,25,dh 4302 4303 b5),(4302,9,[rc1 (b5.aj++(jN b2 v6))]),(4303,25,[rc9 (ya b5 b2 v6)])] ?_))
  cases h
  exact hQ
 ·refine Wp.skip (To.aO (kt [1,2,4,5,6] [2,4,5,4302,4303] [(1,.str v1),(2,.own 2 0),(4,.own 4 0),(5,.own 5 0),(6,vi v6)] [(2,25,qc6 b2),(4,25,qc6 b4),(5,25,dh 4302 4303 b5),(4302,9,[rc1 b5.aj]),(4303,25,[rc9 b5.ak])] ?_))
  cases h
  exact hQ
def jG(n:Nat)(v1:Bs)(b2:af)(b4:af):Nat->Int->af->Option (af)
 |0,_,_=>none
 |k+1,v6,b5=>if(decide (v6<(List.length b2.aj:Int)))=true then((rQ n v1 v6 b2 b4 b5).bind fun o1 =>
 jG n v1 b2 b4 k (IntKind.wrap .i64 (v6+1)) o1)
 else some b5
theorem Eg(n:Nat)(v1:Bs)(b2:af)(b4:af)(k:Nat):∀(v6:Int)(b5:af)(o:af),jG n v1 b2 b4 k v6 b5=some o->To 47 F0 w0 [(4,.own 4 0),(5,.own 5 0)] [(4,25,qc6 b4),(5,25,dh 4302 4303 o),(4302,9,[rc1 o.aj]),(4303,25,[rc9 o.ak])] (.exit 0) Q->WL Tryz.prog 47 F0 w0 [(1,.str v1),(2,.own 2 0),(4,.own 4 0),(5,.own 5 0),(6,vi v6)] [(2,25,qc6 b2),(4,25,qc6 b4),(5,25,dh 4302 4303 b5),(4302,9,[rc1 b5.aj]),(4303,25,[rc9 b5.ak])] (cI (cI (cB (cA (cB (cB (cB (cF Tryz.f39)))))))) Q:=by
 induction k with
 |zero=>intro v6 b5 o h;cases h
 |succ k ih =>
  intro v6 b5 o h hQ
  rw[jG] at h
  refine WL.round (Wp.seq (Wp.seq (rg [1,2,4,5,6,16] [2,4,5,4302,4303] [(1,.str v1),(2,.own 2 0),(4,.own 4 0),(5,.own 5 0),(6,vi v6),(16,vb (xq v6 b2))] [(2,25,qc6 b2),(4,25,qc6 b4),(5,25,dh 4302 4303 b5),(4302,9,[rc1 b5.aj]),(4303,25,[rc9 b5.ak])] (To.ah (cn h (fun h=>?_) (fun h=>?_))))))
  ·refine Wp.skip (To.ah (Wp.seq ?_))
   obtain⟨o1,ho1,h⟩:=au h
   refine kw [1,2,4,5,6] [2,4,5,4302,4303] [(1,.str v1),(2,.own 2 0),(4,.own 4 0),(5,.own 5 0),(6,vi v6)] [(2,25,qc6 b2),(4,25,qc6 b4),(5,25,dh 4302 4303 b5),(4302,9,[rc1 b5.aj]),(4303,25,[rc9 b5.ak])] (Ec n v1 v6 b2 b4 b5 o1 ho1 (To.ah (rg [1,2,4,5,6] [2,4,5,4302,4303] [(1,.str v1),(2,.own 2 0),(4,.own 4 0),(5,.own 5 0),(qh v6)] [(2,25,qc6 b2),(4,25,qc6 b4),(5,25,dh 4302 4303 o1),(4302,9,[rc1 o1.aj]),(4303,25,[rc9 o1.ak])] (kt [1,2,4,5,6] [2,4,5,4302,4303] [(1,.str v1),(2,.own 2 0),(4,.own 4 0),(5,.own 5 0),(qh v6)] [(2,25,qc6 b2),(4,25,qc6 b4),(5,25,dh 4302 4303 o1),(4302,9,[rc1 o1.aj]),(4303,25,[rc9 o1.ak])] (To.again ?_)))))
   exact ih (IntKind.wrap .i64 (v6+1)) o1 _ h hQ
  ·refine Wp.exit (To.aK (To.aK (kt [4,5] [4,5,4302,4303] [(4,.own 4 0),(5,.own 5 0)] [(4,25,qc6 b4),(5,25,dh 4302 4303 b5),(4302,9,[rc1 b5.aj]),(4303,25,[rc9 b5.ak])] ?_)))
   cases h
   exact hQ
def ta(n:Nat)(a0:af)(a1:Bs):Option (af) :=
 if(a0.av != 3)=true then some a0
 else((jG n a1 a0 (af.mk 0 [] [] []) n 0 (af.mk 3 [] [] [])).bind fun o1 =>
 some o1)
theorem JU(n:Nat)(a0:af)(a1:Bs)(r:af)(h:ta n a0 a1=some r):aJ Tryz.prog 39 [.agg (qc6 a0),.str a1] (.agg (qc6 r)):=by
 unfold ta at h
 refine xo Tryz.f39 rfl fun F0 w0 _=>?_
 refine Wp.seq (rg [1,2,4] [2,4] [(1,.str a1),(2,.own 2 0),(4,.own 4 0)] [(2,25,qc6 a0),(4,25,[vi 0,.str [],.val (.slice none 0 0),.val (.slice none 0 0)])] (To.ah (Wp.seq (Wp.seq (rg [1,2,4,9] [2,4] [(1,.str a1),(2,.own 2 0),(4,.own 4 0),(9,vb (a0.av != 3))] [(2,25,qc6 a0),(4,25,[vi 0,.str [],.val (.slice none 0 0),.val (.slice none 0 0)])] (To.ah (cn h (fun h=>?_) (fun h=>?_))))))))
 ·refine Wp.seq (rg [4] [4] [(4,.own 4 0)] [(4,25,qc6 a0)] (To.ah (Wp.ret (To.aA ?_))))
  cases h
  exact To.done hΓ (by kernel_rfl)
 ·refine Wp.skip (To.ah (Wp.seq (rg [1,2,4,5] [2,4,5] [(1,.str a1),(2,.own 2 0),(4,.own 4 0),(5,.own 5 0)] [(2,25,qc6 a0),(4,25,[vi 0,.str [],.val (.slice none 0 0),.val (.slice none 0 0)]),(5,25,[vi 3,.str [],.val (.slice none 0 0),.val (.slice none 0 0)])] (To.ah (Wp.seq (Wp.seq (rg [1,2,4,5,6] [2,4,5] [(1,.str a1),(2,.own 2 0),(4,.own 4 0),(5,.own 5 0),(6,vi 0)] [(2,25,qc6 a0),(4,25,[vi 0,.str [],.val (.slice none 0 0),.val (.slice none 0 0)]),(5,25,[vi 3,.str [],.val (.slice none 0 0),.val (.slice none 0 0)])] (To.ah (Wp.block ?_)))))))))
  obtain⟨o1,ho1,h⟩:=au h
  refine kw [1,2,4,5,6] [2,4,5] [(1,.str a1),(2,.own 2 0),(4,.own 4 0),(5,.own 5 0),(6,vi 0)] [(2,25,qc6 a0),(4,25,[vi 0,.str [],.val (.slice none 0 0),.val (.slice none 0 0)]),(5,25,[vi 3,.str [],.val (.slice none 0 0),.val (.slice none 0 0)])] (Wp.pre (St.oN 5 2 4302 9 (aH _) (by decide) (by kernel_rfl) (L':=[(2,25,qc6 a0),(4,25,[vi 0,.str [],.val (.slice none 0 0),.val (.slice none 0 0)]),(5,25,[vi 3,.str [],.row 4302,.val (.slice none 0 0)])]) (by kernel_rfl)) (kw [1,2,4,5,6] [2,4,5,4302] [(1,.str a1),(2,.own 2 0),(4,.own 4 0),(5,.own 5 0),(6,vi 0)] [(2,25,qc6 a0),(4,25,[vi 0,.str [],.val (.slice none 0 0),.val (.slice none 0 0)]),(5,25,[vi 3,.str [],.row 4302,.val (.slice none 0 0)]),(4302,9,[rc1 []])] (Wp.pre (St.oN 5 3 4303 25 (aY _) (by decide) (by kernel_rfl) (L':=[(2,25,qc6 a0),(4,25,[vi 0,.str [],.val (.slice none 0 0),.val (.slice none 0 0)]),(5,25,[vi 3,.str [],.row 4302,.row 4303]),(4302,9,[rc1 []])]) (by kernel_rfl)) (kw [1,2,4,5,6] [2,4,5,4302,4303] [(1,.str a1),(2,.own 2 0),(4,.own 4 0),(5,.own 5 0),(6,vi 0)] [(2,25,qc6 a0),(4,25,[vi 0,.str [],.val (.slice none 0 0),.val (.slice none 0 0)]),(5,25,[vi 3,.str [],.row 4302,.row 4303]),(4302,9,[rc1 []]),(4303,25,[rc9 []])] (Wp.weak (K':=[(1,.str a1),(2,.own 2 0),(4,.own 4 0),(5,.own 5 0),(6,vi 0)]) (L':=[(2,25,qc6 a0),(4,25,[vi 0,.str [],ls [],tn4 []]),(5,25,[vi 3,.str [],.row 4302,.row 4303]),(4302,9,[rc1 []]),(4303,25,[rc9 []])]) (.cons (.refl _) (.cons (.refl _) (.cons (.refl _) (.cons (.refl _) (.cons (.refl _) .nil))))) (.cons (.cons (.refl _) (.cons (.refl _) (.cons (.refl _) (.cons (.refl _) .nil)))) (.cons (.cons (.refl _) (.cons (.refl _) (.cons (.zero _ _) (.cons (.bu _ _ _) .nil)))) (.cons (.cons (.refl _) (.cons (.refl _) (.cons (.refl _) (.cons (.refl _) .nil)))) (.cons (.cons (.refl _) .nil) (.cons (.cons (.refl _) .nil) .nil))))) (Wp.bC (Eg n a1 a0 zx3 n 0 (af.mk 3 [] [] []) o1 ho1 (To.aX (To.ah (Wp.seq ?_))))))))))
  refine rg [4] [4,4302,4303] [(4,.own 4 0)] [(4,25,dh 4302 4303 o1),(4302,9,[rc1 o1.aj]),(4303,25,[rc9 o1.ak])] (To.ah (Wp.ret (To.pre (St.settle (ks:=[4302,4303]) (kk:=[4]) (kl:=[4,4302,4303]) (K':=[(4,.own 4 0)]) (L':=[(4,25,dh 4302 4303 o1),(4302,9,[rc2 o1.aj]),(4303,25,[iC o1.ak])]) (by kernel_rfl)) (To.pre (St.ug [4] (L':=[(4,25,MH o1),(4302,9,[rc2 o1.aj]),(4303,25,[iC o1.ak])]) (by kernel_rfl)) (To.weak (K':=[(4,.own 4 0)]) (L':=[(4,25,qc6 o1),(4302,9,[rc2 o1.aj]),(4303,25,[iC o1.ak])]) (.cons (.refl _) .nil) (.cons (.cons (.refl _) (.cons (.refl _) (.cons (.refl _) (.cons (.close _ _ _ _) .nil)))) (.cons (.cons (.refl _) .nil) (.cons (.cons (.refl _) .nil) .nil))) ?_)))))
  cases h
  exact To.done hΓ (by kernel_rfl)
def pq(n:Nat)(v1:Ls)(v7:Ls)(v9:Int)(b2:af)(b4:af)(b6:af)(b8:af):Option ((Ls)×af) :=
 if(decide (0<=v9/\v9<(List.length b6.ak:Int)))=true then((qa n ((b6.ak)[Int.toNat v9]?.getD (af.mk 0 [] [] [])) v1).bind fun r2 =>
 if r2=true then(if(decide (0<=v9/\v9<(List.length b6.aj:Int)))=true then(if(decide (0<=v9/\v9<(List.length b6.ak:Int)))=true then((ta n ((b6.ak)[Int.toNat v9]?.getD (af.mk 0 [] [] [])) qJ).bind fun r3 =>
 (dA n b8 ((b6.aj)[Int.toNat v9]?.getD []) r3).bind fun r4 =>
 some (v7,r4)) else none) else none)
 else(if(decide (0<=v9/\v9<(List.length b6.aj:Int)))=true then(if(decide ((List.length v7+List.length ([((b6.aj)[Int.toNat v9]?.getD [])]:Ls))*(16+1)<=limit))=true then(some ((v7++([((b6.aj)[Int.toNat v9]?.getD [])]:Ls)),b8)) else none) else none)) else none
theorem AB(n:Nat)(v1:Ls)(v7:Ls)(v9:Int)(b2:af)(b4:af)(b6:af)(b8:af)(o:(Ls)×af)(h:pq n v1 v7 v9 b2 b4 b6 b8=some o)(hQ:To 59 F0 w0 [(1,ls v1),(2,.own 2 0),(4,.own 4 0),(6,.own 6 0),(7,.row 1007),(8,.own 8 0),(9,vi v9)] [(2,25,qc6 b2),(4,25,qc6 b4),(6,25,qc6 b6),(8,25,qc6 o.2),(1007,9,[rc1 o.1])] .normal Q):Wp Tryz.prog 59 F0 w0 [(1,ls v1),(2,.own 2 0),(4,.own 4 0),(6,.own 6 0),(7,.row 1007),(8,.own 8 0),(9,vi v9)] [(2,25,qc6 b2),(4,25,qc6 b4),(6,25,qc6 b6),(8,25,qc6 b8),(1007,9,[rc1 v7])] (cA (cB (cI (cI (cB (cA (cB (cB (cB (cB (cF Tryz.f10))))))))))) Q:=by
 unfold pq at h
 refine Wp.block (Wp.seq ?_)
 obtain⟨hc9,h⟩:=ax h
 obtain⟨r2,hr2,h⟩:=au h
 refine rr [] [(6,vb r2)] [] [1,2,4,6,7,8,9,27] [2,4,6,8,1007] [(1,ls v1),(2,.own 2 0),(4,.own 4 0),(6,.own 6 0),(7,.row 1007),(8,.own 8 0),(9,vi v9),(27,vb r2)] [(2,25,qc6 b2),(4,25,qc6 b4),(6,25,qc6 b6),(8,25,qc6 b8),(1007,9,[rc1 v7])] [_,_] (ai.cons hc9 (ai.cons (c1 (xT n (ex5 b6 v9) v1 _ hr2)) ai.nil)) (To.ah (cn h (fun h=>?_) (fun h=>?_)))
 ·obtain⟨hc5,h⟩:=ax h
  obtain⟨hc6,h⟩:=ax h
  obtain⟨r3,hr3,h⟩:=au h
  obtain⟨r4,hr4,h⟩:=au h
  refine Wp.bG hm hΓ [(11,.agg (qc6 r3)),(12,.agg (qc6 r4))] [1,2,4,6,7,8,9] [2,4,6,8,1007] (K':=[(1,ls v1),(2,.own 2 0),(4,.own 4 0),(6,.own 6 0),(7,.row 1007),(8,.own 8 0),(9,vi v9)]) (L':=[(2,25,qc6 b2),(4,25,qc6 b4),(6,25,qc6 b6),(8,25,qc6 r4),(1007,9,[rc1 v7])]) (ob:=[(FH v9 b6)=true,(ex6 v9 b6)=true,(true=true->CX Tryz.prog 39 [.agg [vi ((ex5 b6 v9).av),.str ((ex5 b6 v9).aB),ls ((ex5 b6 v9).aj),tn4 ((ex5 b6 v9).ak)],.str qJ] (.agg (qc6 r3))),(true=true->CX Tryz.prog 30 [.agg (qc6 b8),.str (cv b6 v9),.agg (qc6 r3)] (.agg (qc6 r4)))]) (by kernel_rfl) (ai.cons hc5 (ai.cons hc6 (ai.cons (fun _=>cx (JU n (ex5 b6 v9) qJ _ hr3)) (ai.cons (fun _=>cx (dH n b8 (cv b6 v9) r3 _ hr4)) ai.nil)))) (To.aO (kt [1,2,4,6,7,8,9] [2,4,6,8,1007] [(1,ls v1),(2,.own 2 0),(4,.own 4 0),(6,.own 6 0),(7,.row 1007),(8,.own 8 0),(9,vi v9)] [(2,25,qc6 b2),(4,25,qc6 b4),(6,25,qc6 b6),(8,25,qc6 r4),(1007,9,[rc1 v7])] ?_))
  cases h
  exact hQ
 ·obtain⟨hc7,h⟩:=ax h
  obtain⟨hc8,h⟩:=ax h
  refine rr [] [(6,ls ([(cv b6 v9)])),(7,ls (v7++(jN b6 v9)))] [] [1,2,4,6,7,8,9] [2,4,6,8,48] [(1,ls v1),(2,.own 2 0),(4,.own 4 0),(6,.own 6 0),(7,.row 48),(8,.own 8 0),(9,vi v9)] [(2,25,qc6 b2),(4,25,qc6 b4),(6,25,qc6 b6),(8,25,qc6 b8),(48,9,[rc1 (v7++(jN b6 v9))])] [_,(bY 1 [.str (cv b6 v9)] 1 (ls ([(cv b6 v9)]))/\aM (ls ([(cv b6 v9)]))),_,(fY [] aR v7 (List.flatMap aR (jN b6 v9)) (List.length (jN b6 v9)) (ls (v7++(jN b6 v9)))/\aM (ls (v7++(jN b6 v9))))] (ai.cons hc7 (ai.cons (df (by kernel_rfl) rfl (by kernel_rfl) (aH _)) (ai.cons hc8 (ai.cons (gV rfl rfl (aH _)) ai.nil)))) (To.aO (nt [1,2,4,6,7,8,9] [2,4,6,8,48] [(48,1007)] [1,2,4,6,7,8,9] [2,4,6,8,1007] [(1,ls v1),(2,.own 2 0),(4,.own 4 0),(6,.own 6 0),(7,.row 1007),(8,.own 8 0),(9,vi v9)] [(2,25,qc6 b2),(4,25,qc6 b4),(6,25,qc6 b6),(8,25,qc6 b8),(1007,9,[rc1 (v7++(jN b6 v9))])] ?_))
  cases h
  exact hQ
def fJ(n:Nat)(v1:Ls)(b2:af)(b4:af)(b6:af):Nat->(Ls)->Int->af->Option ((Ls)×af)
 |0,_,_,_=>none
 |k+1,v7,v9,b8=>if(decide (v9<(List.length b6.aj:Int)))=true then((pq n v1 v7 v9 b2 b4 b6 b8).bind fun o2 =>
 fJ n v1 b2 b4 b6 k o2.1 (IntKind.wrap .i64 (v9+1)) o2.2)
 else(some (v7,b8))
theorem zU(n:Nat)(v1:Ls)(b2:af)(b4:af)(b6:af)(k:Nat):∀(v7:Ls)(v9:Int)(b8:af)(o:(Ls)×af),fJ n v1 b2 b4 b6 k v7 v9 b8=some o->To 59 F0 w0 [(2,.own 2 0),(4,.own 4 0),(6,.own 6 0),(7,.row 1007),(8,.own 8 0)] [(2,25,qc6 b2),(4,25,qc6 b4),(6,25,qc6 b6),(8,25,qc6 o.2),(1007,9,[rc1 o.1])] (.exit 0) Q->WL Tryz.prog 59 F0 w0 [(1,ls v1),(2,.own 2 0),(4,.own 4 0),(6,.own 6 0),(7,.row 1007),(8,.own 8 0),(9,vi v9)] [(2,25,qc6 b2),(4,25,qc6 b4),(6,25,qc6 b6),(8,25,qc6 b8),(1007,9,[rc1 v7])] (cI (cI (cB (cA (cB (cB (cB (cB (cF Tryz.f10))))))))) Q:=by
 induction k with
 |zero=>intro v7 v9 b8 o h;cases h
 |succ k ih =>
  intro v7 v9 b8 o h hQ
  rw[fJ] at h
  refine WL.round (Wp.seq (Wp.seq (rg [1,2,4,6,7,8,9,18] [2,4,6,8,1007] [(1,ls v1),(2,.own 2 0),(4,.own 4 0),(6,.own 6 0),(7,.row 1007),(8,.own 8 0),(9,vi v9),(18,vb (xq v9 b6))] [(2,25,qc6 b2),(4,25,qc6 b4),(6,25,qc6 b6),(8,25,qc6 b8),(1007,9,[rc1 v7])] (To.ah (cn h (fun h=>?_) (fun h=>?_))))))
  ·refine Wp.skip (To.ah (Wp.seq ?_))
   obtain⟨o2,ho2,h⟩:=au h
   refine kw [1,2,4,6,7,8,9] [2,4,6,8,1007] [(1,ls v1),(2,.own 2 0),(4,.own 4 0),(6,.own 6 0),(7,.row 1007),(8,.own 8 0),(9,vi v9)] [(2,25,qc6 b2),(4,25,qc6 b4),(6,25,qc6 b6),(8,25,qc6 b8),(1007,9,[rc1 v7])] (AB n v1 v7 v9 b2 b4 b6 b8 o2 ho2 (To.ah (rg [1,2,4,6,7,8,9] [2,4,6,8,1007] [(1,ls v1),(2,.own 2 0),(4,.own 4 0),(6,.own 6 0),(7,.row 1007),(8,.own 8 0),(xP v9)] [(2,25,qc6 b2),(4,25,qc6 b4),(6,25,qc6 b6),(8,25,qc6 o2.2),(1007,9,[rc1 o2.1])] (kt [1,2,4,6,7,8,9] [2,4,6,8,1007] [(1,ls v1),(2,.own 2 0),(4,.own 4 0),(6,.own 6 0),(7,.row 1007),(8,.own 8 0),(xP v9)] [(2,25,qc6 b2),(4,25,qc6 b4),(6,25,qc6 b6),(8,25,qc6 o2.2),(1007,9,[rc1 o2.1])] (To.again ?_)))))
   exact ih o2.1 (IntKind.wrap .i64 (v9+1)) o2.2 _ h hQ
  ·refine Wp.exit (To.aK (To.aK (kt [2,4,6,7,8] [2,4,6,8,1007] [(2,.own 2 0),(4,.own 4 0),(6,.own 6 0),(7,.row 1007),(8,.own 8 0)] [(2,25,qc6 b2),(4,25,qc6 b4),(6,25,qc6 b6),(8,25,qc6 b8),(1007,9,[rc1 v7])] ?_)))
   cases h
   exact hQ
def ky(n:Nat)(v7:Ls)(v52:Bool)(b2:af)(b4:af)(b8:af):Option (af) :=
 if v52=true then((dA n b2 kF b8).bind fun r3 =>
 some r3)
 else some b2
theorem Bt(n:Nat)(v7:Ls)(v52:Bool)(b2:af)(b4:af)(b8:af)(o:af)(h:ky n v7 v52 b2 b4 b8=some o)(hQ:To 59 F0 w0 [(2,.own 2 0),(4,.own 4 0),(7,.row 1007)] [(2,25,qc6 o),(4,25,qc6 b4),(1007,9,[rc1 v7])] .normal Q):Wp Tryz.prog 59 F0 w0 [(2,.own 2 0),(4,.own 4 0),(7,.row 1007),(8,.own 8 0),(52,vb v52)] [(2,25,qc6 b2),(4,25,qc6 b4),(8,25,qc6 b8),(1007,9,[rc1 v7])] (cB (cA (cB (cB (cB (cB (cB (cF Tryz.f10)))))))) Q:=by
 unfold ky at h
 refine cn h (fun h=>?_) (fun h=>?_)
 ·obtain⟨r3,hr3,h⟩:=au h
  refine rc [] 2 [2,4,7] [2,4,1007] [(2,.own 2 0),(4,.own 4 0),(7,.row 1007)] [(2,25,qc6 r3),(4,25,qc6 b4),(1007,9,[rc1 v7])] (dH n b2 kF b8 _ hr3) (kt [2,4,7] [2,4,1007] [(2,.own 2 0),(4,.own 4 0),(7,.row 1007)] [(2,25,qc6 r3),(4,25,qc6 b4),(1007,9,[rc1 v7])] ?_)
  cases h
  exact hQ
 ·refine Wp.skip (kt [2,4,7] [2,4,1007] [(2,.own 2 0),(4,.own 4 0),(7,.row 1007)] [(2,25,qc6 b2),(4,25,qc6 b4),(1007,9,[rc1 v7])] ?_)
  cases h
  exact hQ
def pI(n:Nat)(a0:af)(a1:Ls):Option (af×(Ls)) :=
 (iZ n a0).bind fun r1 =>
 (fJ n a1 a0 (af.mk 0 [] [] []) r1 n ([]:Ls) 0 (af.mk 3 [] [] [])).bind fun o2 =>
 (ky n o2.1 (decide ((List.length r1.aj:Int)>0)) a0 (af.mk 0 [] [] []) o2.2).bind fun o3 =>
 (gi n o2.1).bind fun r4 =>
 some (o3,r4)
theorem Gw(n:Nat)(a0:af)(a1:Ls)(r:af×(Ls))(h:pI n a0 a1=some r):aJ Tryz.prog 10 [.agg (qc6 a0),ls a1] (.tup [.agg (qc6 r.1),ls r.2]):=by
 unfold pI at h
 refine xo Tryz.f10 rfl fun F0 w0 _=>?_
 refine Wp.seq (rg [1,2,4] [2,4] [(1,ls a1),(2,.own 2 0),(4,.own 4 0)] [(2,25,qc6 a0),(4,25,[vi 0,.str [],.val (.slice none 0 0),.val (.slice none 0 0)])] (To.ah (Wp.seq ?_)))
 obtain⟨r1,hr1,h⟩:=au h
 refine rc [] 1 [1,2,4,6] [2,4,6] [(1,ls a1),(2,.own 2 0),(4,.own 4 0),(6,.own 6 0)] [(2,25,qc6 a0),(4,25,[vi 0,.str [],.val (.slice none 0 0),.val (.slice none 0 0)]),(6,25,qc6 r1)] (mP n a0 _ hr1) (To.ah (Wp.seq (rr [] [(0,ls [])] [] [1,2,4,6,7] [2,4,6,12] [(1,ls a1),(2,.own 2 0),(4,.own 4 0),(6,.own 6 0),(7,.row 12)] [(2,25,qc6 a0),(4,25,[vi 0,.str [],.val (.slice none 0 0),.val (.slice none 0 0)]),(6,25,qc6 r1),(12,9,[rc1 []])] [(bY 1 [] 0 (ls [])/\aM (ls []))] (ai.cons (df (by kernel_rfl) rfl (by kernel_rfl) (aH _)) ai.nil) (To.ah (Wp.seq (rg [1,2,4,6,7,8] [2,4,6,8,12] [(1,ls a1),(2,.own 2 0),(4,.own 4 0),(6,.own 6 0),(7,.row 12),(8,.own 8 0)] [(2,25,qc6 a0),(4,25,[vi 0,.str [],.val (.slice none 0 0),.val (.slice none 0 0)]),(6,25,qc6 r1),(8,25,[vi 3,.str [],.val (.slice none 0 0),.val (.slice none 0 0)]),(12,9,[rc1 []])] (To.ah (Wp.seq (Wp.seq (rg [1,2,4,6,7,8,9] [2,4,6,8,12] [(1,ls a1),(2,.own 2 0),(4,.own 4 0),(6,.own 6 0),(7,.row 12),(8,.own 8 0),(9,vi 0)] [(2,25,qc6 a0),(4,25,[vi 0,.str [],.val (.slice none 0 0),.val (.slice none 0 0)]),(6,25,qc6 r1),(8,25,[vi 3,.str [],.val (.slice none 0 0),.val (.slice none 0 0)]),(12,9,[rc1 []])] ?_))))))))))
 refine To.ah (Wp.block ?_)
 obtain⟨o2,ho2,h⟩:=au h
 refine nw [1,2,4,6,7,8,9] [2,4,6,8,12] [(12,1007)] [1,2,4,6,7,8,9] [2,4,6,8,1007] [(1,ls a1),(2,.own 2 0),(4,.own 4 0),(6,.own 6 0),(7,.row 1007),(8,.own 8 0),(9,vi 0)] [(2,25,qc6 a0),(4,25,[vi 0,.str [],.val (.slice none 0 0),.val (.slice none 0 0)]),(6,25,qc6 r1),(8,25,[vi 3,.str [],.val (.slice none 0 0),.val (.slice none 0 0)]),(1007,9,[rc1 []])] (Wp.weak (K':=[(1,ls a1),(2,.own 2 0),(4,.own 4 0),(6,.own 6 0),(7,.row 1007),(8,.own 8 0),(9,vi 0)]) (L':=[(2,25,qc6 a0),(4,25,[vi 0,.str [],ls [],tn4 []]),(6,25,qc6 r1),(8,25,[vi 3,.str [],ls [],tn4 []]),(1007,9,[rc1 []])]) (.cons (.refl _) (.cons (.refl _) (.cons (.refl _) (.cons (.refl _) (.cons (.refl _) (.cons (.refl _) (.cons (.refl _) .nil))))))) (.cons (.cons (.refl _) (.cons (.refl _) (.cons (.refl _) (.cons (.refl _) .nil)))) (.cons (.cons (.refl _) (.cons (.refl _) (.cons (.zero _ _) (.cons (.bu _ _ _) .nil)))) (.cons (.cons (.refl _) (.cons (.refl _) (.cons (.refl _) (.cons (.refl _) .nil)))) (.cons (.cons (.refl _) (.cons (.refl _) (.cons (.zero _ _) (.cons (.bu _ _ _) .nil)))) (.cons (.cons (.refl _) .nil) .nil))))) (Wp.bC (zU n a1 a0 zx3 r1 n ([]:Ls) 0 (af.mk 3 [] [] []) o2 ho2 (To.aX (To.ah (Wp.seq (Wp.seq (rg [2,4,7,8,52] [2,4,8,1007] [(2,.own 2 0),(4,.own 4 0),(7,.row 1007),(8,.own 8 0),(52,vb (decide ((List.length r1.aj:Int)>0)))] [(2,25,qc6 a0),(4,25,[vi 0,.str [],ls [],tn4 []]),(8,25,qc6 o2.2),(1007,9,[rc1 o2.1])] (To.ah ?_)))))))))
 obtain⟨o3,ho3,h⟩:=au h
 refine kw [2,4,7,8,52] [2,4,8,1007] [(2,.own 2 0),(4,.own 4 0),(7,.row 1007),(8,.own 8 0),(52,vb (decide ((List.length r1.aj:Int)>0)))] [(2,25,qc6 a0),(4,25,[vi 0,.str [],ls [],tn4 []]),(8,25,qc6 o2.2),(1007,9,[rc1 o2.1])] (Bt n o2.1 (decide ((List.length r1.aj:Int)>0)) a0 zx3 o2.2 o3 ho3 (To.ah (Wp.seq ?_)))
 obtain⟨r4,hr4,h⟩:=au h
 refine Wp.pre (St.settle (ks:=[1007]) (kk:=[2,4,7]) (kl:=[2,4,1007]) (K':=[(2,.own 2 0),(4,.own 4 0),(7,.row 1007)]) (L':=[(2,25,qc6 o3),(4,25,[vi 0,.str [],ls [],tn4 []]),(1007,9,[rc2 o2.1])]) (by kernel_rfl)) (Wp.bG hm hΓ [(2,ls r4)] [4,5] [4] (K':=[(4,.own 4 0),(5,ls r4)]) (L':=[(4,25,qc6 o3)]) (ob:=[(true=true->CX Tryz.prog 40 [ls o2.1] (ls r4))]) (by kernel_rfl) (ai.cons (fun _=>cx (mh n o2.1 _ hr4)) ai.nil) (To.ah (Wp.ret ?_)))
 cases h
 exact To.done hΓ (by kernel_rfl)
def jF(R_ref08_Same:af->af->Option (Bool))(n:Nat)(b2:af)(b3:af):Nat->Int->Option (Sum (Unit) (Bool))
 |0,_=>none
 |k+1,v5=>if(decide (v5<(List.length b2.ak:Int)))=true then(if(decide (0<=v5/\v5<(List.length b2.ak:Int)))=true then(if(decide (0<=v5/\v5<(List.length b3.ak:Int)))=true then((R_ref08_Same ((b2.ak)[Int.toNat v5]?.getD (af.mk 0 [] [] [])) ((b3.ak)[Int.toNat v5]?.getD (af.mk 0 [] [] []))).bind fun r3 =>
 if(!r3)=true then(some (.inr false))
 else(jF R_ref08_Same n b2 b3 k (IntKind.wrap .i64 (v5+1)))) else none) else none)
 else(some (.inl ()))
abbrev UM(R_ref08_Same:af->af->Option (Bool)):Prop:=∀(a0:af)(a1:af)(r:Bool),R_ref08_Same a0 a1=some r->aJ Tryz.prog 11 [.agg [vi a0.av,.str a0.aB,ls a0.aj,tn4 a0.ak],.agg [vi a1.av,.str a1.aB,ls a1.aj,tn4 a1.ak]] (vb r)
theorem FG(R_ref08_Same:af->af->Option (Bool))(hR_ref08_Same:UM R_ref08_Same)(n:Nat)(b2:af)(b3:af)(k:Nat):∀(v5:Int)(o:Sum (Unit) (Bool)),jF R_ref08_Same n b2 b3 k v5=some o->(Sum.elim (fun s=>To 54 F0 w0 [] [] (.exit 0) Q) (fun s=>To 54 F0 w0 [(4,vb s)] [] .ret Q)) o->WL Tryz.prog 54 F0 w0 [(2,.own 2 0),(3,.own 3 0),(5,vi v5)] [(2,25,qc6 b2),(3,25,qc6 b3)] (cI (cI (cB (cA (cB (cB (cF Tryz.f11))))))) Q:=by
 induction k with
 |zero=>intro v5 o h;cases h
 |succ k ih =>
  intro v5 o h hQ
  rw[jF] at h
  refine WL.round (Wp.seq (Wp.seq (rg [2,3,5,39] [2,3] [(2,.own 2 0),(3,.own 3 0),(5,vi v5),(39,vb (ex7 v5 b2))] [(2,25,qc6 b2),(3,25,qc6 b3)] (To.ah (cn h (fun h=>?_) (fun h=>?_))))))
  ·refine Wp.skip (To.ah (Wp.seq (Wp.block (Wp.seq ?_))))
   obtain⟨hc4,h⟩:=ax h
   obtain⟨hc5,h⟩:=ax h
   obtain⟨r3,hr3,h⟩:=au h
   refine Wp.bG hm hΓ [(10,vb r3)] [2,3,5,53] [2,3] (K':=[(2,.own 2 0),(3,.own 3 0),(5,vi v5),(53,vb (!r3))]) (L':=[(2,25,qc6 b2),(3,25,qc6 b3)]) (ob:=[(ex6 v5 b2)=true,(ex6 v5 b3)=true,(true=true->CX Tryz.prog 11 [.agg [vi ((ex5 b2 v5).av),.str ((ex5 b2 v5).aB),ls ((ex5 b2 v5).aj),tn4 ((ex5 b2 v5).ak)],.agg [vi ((ex5 b3 v5).av),.str ((ex5 b3 v5).aB),ls ((ex5 b3 v5).aj),tn4 ((ex5 b3 v5).ak)]] (vb r3))]) (by kernel_rfl) (ai.cons hc4 (ai.cons hc5 (ai.cons (fun _=>cx (hR_ref08_Same (ex5 b2 v5) (ex5 b3 v5) _ hr3)) ai.nil))) (To.ah (cn h (fun h=>?_) (fun h=>?_)))
   ·refine Wp.seq (rg [4] [] [(4,vb false)] [] (To.ah (Wp.ret (To.aQ (To.aA (To.aA ?_))))))
    cases h
    exact hQ
   ·refine Wp.skip (To.aO (To.ah (rg [2,3,5] [2,3] [(2,.own 2 0),(3,.own 3 0),(ex3 v5)] [(2,25,qc6 b2),(3,25,qc6 b3)] (kt [2,3,5] [2,3] [(2,.own 2 0),(3,.own 3 0),(ex3 v5)] [(2,25,qc6 b2),(3,25,qc6 b3)] (To.again ?_)))))
    exact ih (IntKind.wrap .i64 (v5+1)) _ h hQ
  ·refine Wp.exit (To.aK (To.aK (kt [] [] [] [] ?_)))
   cases h
   exact hQ
def pM(R_ref08_Same:af->af->Option (Bool))(n:Nat)(a0:af)(a1:af):Option (Bool) :=
 ((if((bif (a0.av != a1.av) then true else(!(a0.aB==a1.aB)))==false)=true then fV n a0.aj a1.aj else some false)).bind fun r1 =>
 aS ((bif (bif (bif (a0.av != a1.av) then true else(!(a0.aB==a1.aB))) then true else(!r1)) then true else((List.length a0.ak:Int) != (List.length a1.ak:Int))):Bool) fun x2 =>
 if x2=true then some false
 else((jF R_ref08_Same n a0 a1 n 0).bind fun o3 =>
 (Sum.elim (fun o3=>some true) (fun o3=>some o3)) o3)
theorem GG(R_ref08_Same:af->af->Option (Bool))(hR_ref08_Same:UM R_ref08_Same)(n:Nat)(a0:af)(a1:af)(r:Bool)(h:pM R_ref08_Same n a0 a1=some r):aJ Tryz.prog 11 [.agg (qc6 a0),.agg (qc6 a1)] (vb r):=by
 unfold pM at h
 refine xo Tryz.f11 rfl fun F0 w0 _=>?_
 refine Wp.seq (rg [2,3] [2,3] [(2,.own 2 0),(3,.own 3 0)] [(2,25,qc6 a0),(3,25,qc6 a1)] (To.ah (Wp.seq (Wp.seq ?_))))
 obtain⟨r1,hr1,h⟩:=au h
 obtain⟨x2,hx2,h⟩:=aW h
 refine rr [] [(17,vb r1)] [] [2,3,34] [2,3] [(2,.own 2 0),(3,.own 3 0),(34,vb (bif (bif (bif (a0.av != a1.av) then true else(!(a0.aB==a1.aB))) then true else(!r1)) then true else((List.length a0.ak:Int) != (List.length a1.ak:Int))))] [(2,25,qc6 a0),(3,25,qc6 a1)] [(((bif (a0.av != a1.av) then true else(!(a0.aB==a1.aB)))==false)=true->CX Tryz.prog 12 [ls a0.aj,ls a1.aj] (vb r1))] (ai.cons (fun hg=>cx (lU n a0.aj a1.aj _ (iR hg hr1))) ai.nil) (To.eq (K':=[(2,.own 2 0),(3,.own 3 0),(34,vb x2)]) (L':=[(2,25,qc6 a0),(3,25,qc6 a1)]) (by cases hx2;rfl) (by cases hx2;rfl) (To.ah (cn h (fun h=>?_) (fun h=>?_))))
 ·refine Wp.seq (rg [4] [] [(4,vb false)] [] (To.ah (Wp.ret (To.aA ?_))))
  cases h
  exact To.done hΓ (by kernel_rfl)
 ·refine Wp.skip (To.ah (Wp.seq (Wp.seq (rg [2,3,5] [2,3] [(2,.own 2 0),(3,.own 3 0),(5,vi 0)] [(2,25,qc6 a0),(3,25,qc6 a1)] (To.ah (Wp.block ?_))))))
  obtain⟨o3,ho3,h⟩:=au h
  refine kw [2,3,5] [2,3] [(2,.own 2 0),(3,.own 3 0),(5,vi 0)] [(2,25,qc6 a0),(3,25,qc6 a1)] (Wp.bC (FG R_ref08_Same hR_ref08_Same n a0 a1 n 0 o3 ho3 ?_))
  rcases o3 with o3|o3
  ·replace h:=cy h
   refine To.aX (To.ah (Wp.seq (rg [4] [] [(4,vb true)] [] (To.ah (Wp.ret ?_)))))
   cases h
   exact To.done hΓ (by kernel_rfl)
  ·replace h:=cH h
   refine To.aQ (To.aA ?_)
   cases h
   exact To.done hΓ (by kernel_rfl)
def jW:Nat->af->af->Option (Bool)
 |0=>fun _ _=>none
 |n+1=>pM (jW n) n
theorem J8(n:Nat):∀(a0:af)(a1:af)(r:Bool),jW n a0 a1=some r->aJ Tryz.prog 11 [.agg (qc6 a0),.agg (qc6 a1)] (vb r):=by
 induction n with
 |zero=>intro a0 a1 r h;cases h
 |succ n ih=>exact fun a0 a1 r h=>GG (jW n) ih n a0 a1 r h
def kB(n:Nat)(v0:Ls)(v1:Ls):Nat->(Ls)->Int->Option ((Ls))
 |0,_,_=>none
 |k+1,v5,v6=>if(decide (v6<(List.length v0:Int)))=true then(if(decide (0<=v6/\v6<(List.length v0:Int)))=true then(if(decide ((List.length v5+List.length ([((v0)[Int.toNat v6]?.getD [])]:Ls))*(16+1)<=limit))=true then(kB n v0 v1 k (v5++([((v0)[Int.toNat v6]?.getD [])]:Ls)) (IntKind.wrap .i64 (v6+1))) else none) else none)
 else some v5
theorem EF(n:Nat)(v0:Ls)(v1:Ls)(k:Nat):∀(v5:Ls)(v6:Int)(o:(Ls)),kB n v0 v1 k v5 v6=some o->To 37 F0 w0 [(1,ls v1),(5,.row 1005)] [(1005,9,[rc1 o])] (.exit 0) Q->WL Tryz.prog 37 F0 w0 [(0,ls v0),(1,ls v1),(5,.row 1005),(6,vi v6)] [(1005,9,[rc1 v5])] (cI (cI (cB (cA (cB (cB (cF Tryz.f19))))))) Q:=by
 induction k with
 |zero=>intro v5 v6 o h;cases h
 |succ k ih =>
  intro v5 v6 o h hQ
  rw[kB] at h
  refine WL.round (Wp.seq (Wp.seq (rg [0,1,5,6,12] [1005] [(0,ls v0),(1,ls v1),(5,.row 1005),(6,vi v6),(12,vb (ex4 v6 v0))] [(1005,9,[rc1 v5])] (To.ah (cn h (fun h=>?_) (fun h=>?_))))))
  ·refine Wp.skip (To.ah (Wp.seq (Wp.block ?_)))
   obtain⟨hc1,h⟩:=ax h
   obtain⟨hc2,h⟩:=ax h
   refine rr [] [(5,ls (yU v0 v6)),(6,ls (v5++(ju v0 v6)))] [] [0,1,5,6] [21] [(0,ls v0),(1,ls v1),(5,.row 21),(6,vi v6)] [(21,9,[rc1 (v5++(ju v0 v6))])] [_,(bY 1 [.str ((v0)[Int.toNat v6]?.getD [])] 1 (ls (yU v0 v6))/\aM (ls (yU v0 v6))),_,(fY [] aR v5 (List.flatMap aR (ju v0 v6)) (List.length (ju v0 v6)) (ls (v5++(ju v0 v6)))/\aM (ls (v5++(ju v0 v6))))] (ai.cons hc1 (ai.cons (df (by kernel_rfl) rfl (by kernel_rfl) (aH _)) (ai.cons hc2 (ai.cons (gV rfl rfl (aH _)) ai.nil)))) (To.aO (To.ah (rg [0,1,5,6] [21] [(0,ls v0),(1,ls v1),(5,.row 21),(qh v6)] [(21,9,[rc1 (v5++(ju v0 v6))])] (nt [0,1,5,6] [21] [(21,1005)] [0,1,5,6] [1005] [(0,ls v0),(1,ls v1),(5,.row 1005),(qh v6)] [(1005,9,[rc1 (v5++(ju v0 v6))])] (To.again ?_)))))
   exact ih (v5++(ju v0 v6)) (IntKind.wrap .i64 (v6+1)) _ h hQ
  ·refine Wp.exit (To.aK (To.aK (kt [1,5] [1005] [(1,ls v1),(5,.row 1005)] [(1005,9,[rc1 v5])] ?_)))
   cases h
   exact hQ
def kC(n:Nat)(v1:Ls):Nat->(Ls)->Int->Option ((Ls))
 |0,_,_=>none
 |k+1,v5,v7=>if(decide (v7<(List.length v1:Int)))=true then(if(decide (0<=v7/\v7<(List.length v1:Int)))=true then(if(decide ((List.length v5+List.length ([((v1)[Int.toNat v7]?.getD [])]:Ls))*(16+1)<=limit))=true then(kC n v1 k (v5++([((v1)[Int.toNat v7]?.getD [])]:Ls)) (IntKind.wrap .i64 (v7+1))) else none) else none)
 else some v5
theorem Fv(n:Nat)(v1:Ls)(k:Nat):∀(v5:Ls)(v7:Int)(o:(Ls)),kC n v1 k v5 v7=some o->To 37 F0 w0 [(5,.row 1005)] [(1005,9,[rc1 o])] (.exit 2) Q->WL Tryz.prog 37 F0 w0 [(1,ls v1),(5,.row 1005),(7,vi v7)] [(1005,9,[rc1 v5])] (cI (cI (cB (cA (cB (cB (cB (cF Tryz.f19)))))))) Q:=by
 induction k with
 |zero=>intro v5 v7 o h;cases h
 |succ k ih =>
  intro v5 v7 o h hQ
  rw[kC] at h
  refine WL.round (Wp.seq (Wp.seq (rg [1,5,7,25] [1005] [(1,ls v1),(5,.row 1005),(7,vi v7),(25,vb (ex4 v7 v1))] [(1005,9,[rc1 v5])] (To.ah (cn h (fun h=>?_) (fun h=>?_))))))
  ·refine Wp.skip (To.ah (Wp.seq (Wp.block ?_)))
   obtain⟨hc2,h⟩:=ax h
   obtain⟨hc3,h⟩:=ax h
   refine rr [] [(5,ls (yU v1 v7)),(6,ls (v5++(ju v1 v7)))] [] [1,5,7] [34] [(1,ls v1),(5,.row 34),(7,vi v7)] [(34,9,[rc1 (v5++(ju v1 v7))])] [_,(bY 1 [.str ((v1)[Int.toNat v7]?.getD [])] 1 (ls (yU v1 v7))/\aM (ls (yU v1 v7))),_,(fY [] aR v5 (List.flatMap aR (ju v1 v7)) (List.length (ju v1 v7)) (ls (v5++(ju v1 v7)))/\aM (ls (v5++(ju v1 v7))))] (ai.cons hc2 (ai.cons (df (by kernel_rfl) rfl (by kernel_rfl) (aH _)) (ai.cons hc3 (ai.cons (gV rfl rfl (aH _)) ai.nil)))) (To.aO (To.ah (rg [1,5,7] [34] [(1,ls v1),(5,.row 34),(ex8 v7)] [(34,9,[rc1 (v5++(ju v1 v7))])] (nt [1,5,7] [34] [(34,1005)] [1,5,7] [1005] [(1,ls v1),(5,.row 1005),(ex8 v7)] [(1005,9,[rc1 (v5++(ju v1 v7))])] (To.again ?_)))))
   exact ih (v5++(ju v1 v7)) (IntKind.wrap .i64 (v7+1)) _ h hQ
  ·refine Wp.exit (To.aK (To.aK (kt [5] [1005] [(5,.row 1005)] [(1005,9,[rc1 v5])] ?_)))
   cases h
   exact hQ
def qH(n:Nat)(a0:Ls)(a1:Ls):Option ((Ls)) :=
 (kB n a0 a1 n ([]:Ls) 0).bind fun o1 =>
 (kC n a1 n o1 0).bind fun o2 =>
 (gi n o2).bind fun r3 =>
 some r3
theorem zx(n:Nat)(a0:Ls)(a1:Ls)(r:(Ls))(h:qH n a0 a1=some r):aJ Tryz.prog 19 [ls a0,ls a1] (ls r):=by
 unfold qH at h
 refine xo Tryz.f19 rfl fun F0 w0 _=>?_
 refine Wp.seq (rg [0,1] [] [(0,ls a0),(1,ls a1)] [] (To.ah (Wp.seq (rr [] [(0,ls [])] [] [0,1,5] [8] [(0,ls a0),(1,ls a1),(5,.row 8)] [(8,9,[rc1 []])] [(bY 1 [] 0 (ls [])/\aM (ls []))] (ai.cons (df (by kernel_rfl) rfl (by kernel_rfl) (aH _)) ai.nil) (To.ah (Wp.seq (Wp.seq (rg [0,1,5,6] [8] [(0,ls a0),(1,ls a1),(5,.row 8),(6,vi 0)] [(8,9,[rc1 []])] (To.ah (Wp.block ?_))))))))))
 obtain⟨o1,ho1,h⟩:=au h
 refine nw [0,1,5,6] [8] [(8,1005)] [0,1,5,6] [1005] [(0,ls a0),(1,ls a1),(5,.row 1005),(6,vi 0)] [(1005,9,[rc1 []])] (Wp.bC (EF n a0 a1 n ([]:Ls) 0 o1 ho1 (To.aX (To.ah (Wp.seq (Wp.seq (rg [1,5,7] [1005] [(1,ls a1),(5,.row 1005),(7,vi 0)] [(1005,9,[rc1 o1])] (To.ah (Wp.block ?_)))))))))
 obtain⟨o2,ho2,h⟩:=au h
 refine kw [1,5,7] [1005] [(1,ls a1),(5,.row 1005),(7,vi 0)] [(1005,9,[rc1 o1])] (Wp.bC (Fv n a1 n o1 0 o2 ho2 (To.aX (To.ah (Wp.seq ?_)))))
 obtain⟨r3,hr3,h⟩:=au h
 refine rc [(1,[1005])] 1 [4] [] [(4,ls r3)] [] (mh n o2 _ hr3) (To.ah (Wp.ret ?_))
 cases h
 exact To.done hΓ (by kernel_rfl)
def iO(n:Nat)(b3:af):Nat->(Ls)->Int->Option ((Ls))
 |0,_,_=>none
 |k+1,v4,v5=>if(decide (v5<(List.length b3.ak:Int)))=true then(if(decide (0<=v5/\v5<(List.length b3.ak:Int)))=true then((jU n ((b3.ak)[Int.toNat v5]?.getD (af.mk 0 [] [] []))).bind fun r2 =>
 (qH n v4 r2).bind fun r3 =>
 iO n b3 k r3 (IntKind.wrap .i64 (v5+1))) else none)
 else some v4
theorem Hm(n:Nat)(b3:af)(k:Nat):∀(v4:Ls)(v5:Int)(o:(Ls)),iO n b3 k v4 v5=some o->To 25 F0 w0 [(4,ls o)] [] (.exit 0) Q->WL Tryz.prog 25 F0 w0 [(3,.own 3 0),(4,ls v4),(5,vi v5)] [(3,25,qc6 b3)] (cI (cI (cB (cA (cB (cB (cB (cF Tryz.f14)))))))) Q:=by
 induction k with
 |zero=>intro v4 v5 o h;cases h
 |succ k ih =>
  intro v4 v5 o h hQ
  rw[iO] at h
  refine WL.round (Wp.seq (Wp.seq (rg [3,4,5,13] [3] [(3,.own 3 0),(4,ls v4),(5,vi v5),(13,vb (ex7 v5 b3))] [(3,25,qc6 b3)] (To.ah (cn h (fun h=>?_) (fun h=>?_))))))
  ·refine Wp.skip (To.ah (Wp.seq (Wp.block ?_)))
   obtain⟨hc4,h⟩:=ax h
   obtain⟨r2,hr2,h⟩:=au h
   obtain⟨r3,hr3,h⟩:=au h
   refine rr [] [(6,ls r2),(7,ls r3)] [] [3,4,5] [3] [(3,.own 3 0),(4,ls r3),(5,vi v5)] [(3,25,qc6 b3)] [_,_,_] (ai.cons hc4 (ai.cons (c1 (qO n (ex5 b3 v5) _ hr2)) (ai.cons (c1 (zx n v4 r2 _ hr3)) ai.nil))) (To.aO (To.ah (rg [3,4,5] [3] [(3,.own 3 0),(4,ls r3),(ex3 v5)] [(3,25,qc6 b3)] (kt [3,4,5] [3] [(3,.own 3 0),(4,ls r3),(ex3 v5)] [(3,25,qc6 b3)] (To.again ?_)))))
   exact ih r3 (IntKind.wrap .i64 (v5+1)) _ h hQ
  ·refine Wp.exit (To.aK (To.aK (kt [4] [] [(4,ls v4)] [] ?_)))
   cases h
   exact hQ
def vH(n:Nat)(a0:af):Option ((Ls)) :=
 (iZ n a0).bind fun r1 =>
 (iO n r1 n [] 0).bind fun o2 =>
 some o2
theorem KH(n:Nat)(a0:af)(r:(Ls))(h:vH n a0=some r):aJ Tryz.prog 14 [.agg (qc6 a0)] (ls r):=by
 unfold vH at h
 refine xo Tryz.f14 rfl fun F0 w0 _=>?_
 refine Wp.seq (rg [1] [1] [(1,.own 1 0)] [(1,25,qc6 a0)] (To.ah (Wp.seq ?_)))
 obtain⟨r1,hr1,h⟩:=au h
 refine rc [] 1 [3] [3] [(3,.own 3 0)] [(3,25,qc6 r1)] (mP n a0 _ hr1) (To.ah (Wp.seq (rr [] [(0,ls [])] [] [3,4] [3,8] [(3,.own 3 0),(4,.row 8)] [(3,25,qc6 r1),(8,9,[rc1 []])] [(bY 1 [] 0 (ls [])/\aM (ls []))] (ai.cons (df (by kernel_rfl) rfl (by kernel_rfl) (aH _)) ai.nil) (To.ah (Wp.seq (Wp.seq (rg [3,4,5] [3,8] [(3,.own 3 0),(4,.row 8),(5,vi 0)] [(3,25,qc6 r1),(8,9,[rc1 []])] (To.ah (Wp.block ?_)))))))))
 obtain⟨o2,ho2,h⟩:=au h
 refine kw [3,4,5] [3,8] [(3,.own 3 0),(4,.row 8),(5,vi 0)] [(3,25,qc6 r1),(8,9,[rc1 []])] (Wp.pre (St.settle (ks:=[8]) (kk:=[3,4,5]) (kl:=[3,8]) (K':=[(3,.own 3 0),(4,.row 8),(5,vi 0)]) (L':=[(3,25,qc6 r1),(8,9,[rc2 []])]) (by kernel_rfl)) (Wp.pre (St.vW [4] (K':=[(3,.own 3 0),(4,ls []),(5,vi 0)]) (by kernel_rfl)) (kw [3,4,5] [3] [(3,.own 3 0),(4,ls []),(5,vi 0)] [(3,25,qc6 r1)] (Wp.bC (Hm n r1 n [] 0 o2 ho2 (To.aX (To.ah (Wp.seq (rg [2] [] [(2,ls o2)] [] (To.ah (Wp.ret ?_)))))))))))
 cases h
 exact To.done hΓ (by kernel_rfl)
def tW(n:Nat)(v8:Bs)(b9:af)(b1000000:Ls)(b1000001:Ls)(b1000002:Ls):Option ((Ls)) :=
 (dL n b1000000 v8).bind fun r2 =>
 ((if(r2==true)=true then uG n b9 b1000001 else some false)).bind fun r3 =>
 if(bif r2 then(!r3) else false)=true then((kE n b9).bind fun r4 =>
 if(decide ((List.length b1000002+List.length r4)*(16+1)<=limit))=true then(some (b1000002++r4)) else none)
 else some b1000002
theorem Gn(n:Nat)(v8:Bs)(b9:af)(b1000000:Ls)(b1000001:Ls)(b1000002:Ls)(o:(Ls))(h:tW n v8 b9 b1000000 b1000001 b1000002=some o)(hQ:To 31 F0 w0 [(4,.own 1000000 0),(5,.own 1000001 0),(7,.own 1000002 0)] [(504120,9,[rc1 o]),(1000000,22,[ls b1000000]),(1000001,22,[ls b1000001]),(1000002,22,[.row 504120])] .normal Q):Wp Tryz.prog 31 F0 w0 [(4,.own 1000000 0),(5,.own 1000001 0),(7,.own 1000002 0),(8,.str v8),(9,.own 9 0)] [(9,25,qc6 b9),(504120,9,[rc1 b1000002]),(1000000,22,[ls b1000000]),(1000001,22,[ls b1000001]),(1000002,22,[.row 504120])] (cRB (cI (cB (cA (cB (cB (cF Tryz.f15))))))) Q:=by
 unfold tW at h
 refine Wp.block (Wp.seq ?_)
 obtain⟨r2,hr2,h⟩:=au h
 obtain⟨r3,hr3,h⟩:=au h
 refine rr [] [(2,vb r2),(6,vb r3)] [] [4,5,7,9,24] [9,504120,1000000,1000001,1000002] [(4,.own 1000000 0),(5,.own 1000001 0),(7,.own 1000002 0),(9,.own 9 0),(24,vb (bif r2 then(!r3) else false))] [(9,25,qc6 b9),(504120,9,[rc1 b1000002]),(1000000,22,[ls b1000000]),(1000001,22,[ls b1000001]),(1000002,22,[.row 504120])] [_,((r2==true)=true->CX Tryz.prog 33 [.agg (qc6 b9),ls b1000001] (vb r3))] (ai.cons (c1 (lG n b1000000 v8 _ hr2)) (ai.cons (fun hg=>cx (yT n b9 b1000001 _ (iR hg hr3))) ai.nil)) (To.ah (cn h (fun h=>?_) (fun h=>?_)))
 ·obtain⟨r4,hr4,h⟩:=au h
  obtain⟨hc5,h⟩:=ax h
  refine Wp.Ja hm hΓ [] [(2,ls r4),(3,ls (b1000002++r4))] [] [4,5,7,9,24,25,26,27,28] [9,28,504120,1000000,1000001,1000002] [4,5,7] [28,1000000,1000001,1000002] (K':=[(4,.own 1000000 0),(5,.own 1000001 0),(7,.own 1000002 0)]) (L':=[(28,9,[rc1 (b1000002++r4)]),(1000000,22,[ls b1000000]),(1000001,22,[ls b1000001]),(1000002,22,[.row 28])]) (ob:=[(true=true->CX Tryz.prog 41 [.agg (qc6 b9)] (ls r4)),(decide ((List.length b1000002+List.length r4)*(16+1)<=limit))=true,(fY [] aR b1000002 (List.flatMap aR r4) (List.length r4) (ls (b1000002++r4))/\aM (ls (b1000002++r4)))]) (by kernel_rfl) (by kernel_rfl) (ai.cons (fun _=>cx (sr n b9 _ hr4)) (ai.cons hc5 (ai.cons (gV rfl rfl (aH _)) ai.nil))) (To.aO (nt [4,5,7] [28,1000000,1000001,1000002] [(28,504120)] [4,5,7] [504120,1000000,1000001,1000002] [(4,.own 1000000 0),(5,.own 1000001 0),(7,.own 1000002 0)] [(504120,9,[rc1 (b1000002++r4)]),(1000000,22,[ls b1000000]),(1000001,22,[ls b1000001]),(1000002,22,[.row 504120])] ?_))
  cases h
  exact hQ
 ·refine Wp.skip (To.aO (kt [4,5,7] [504120,1000000,1000001,1000002] [(4,.own 1000000 0),(5,.own 1000001 0),(7,.own 1000002 0)] [(504120,9,[rc1 b1000002]),(1000000,22,[ls b1000000]),(1000001,22,[ls b1000001]),(1000002,22,[.row 504120])] ?_))
  cases h
  exact hQ
def iP(n:Nat)(b1000000:Ls)(b1000001:Ls):List (Bs×af)->(Ls)->Option ((Ls))
 |[],b1000002=>some b1000002
 |x::r,b1000002=>(tW n x.1 x.2 b1000000 b1000001 b1000002).bind fun o2 =>
 iP n b1000000 b1000001 r o2
theorem GY(n:Nat)(b1000000:Ls)(b1000001:Ls)(x:(Bs×af))(r:List (Bs×af))(b1000002:Ls)(o:(Ls))(h:iP n b1000000 b1000001 (x::r) b1000002=some o){F0:Fz}{w0:Pt Tryz.prog}{Lx:aG}:Wp Tryz.prog 31 F0 w0 [(4,.own 1000000 0),(5,.own 1000001 0),(7,.own 1000002 0),(8,.str x.1),(9,.own 9 0)] [(9,25,qc6 x.2),(504120,9,[rc1 b1000002]),(1000000,22,[ls b1000000]),(1000001,22,[ls b1000001]),(1000002,22,[.row 504120])] (cRB (cI (cB (cA (cB (cB (cF Tryz.f15))))))) (nK F0 w0 (fun(s:(Ls))=>iP n b1000000 b1000001 r s=some o) (fun(s:(Ls))=>[(504120,9,[rc1 s]),(1000000,22,[ls b1000000]),(1000001,22,[ls b1000001]),(1000002,22,[.row 504120])]) none Lx):=by
 rw[iP] at h
 obtain⟨o2,ho2,h⟩:=au h
 refine kw [4,5,7,8,9] [9,504120,1000000,1000001,1000002] [(4,.own 1000000 0),(5,.own 1000001 0),(7,.own 1000002 0),(8,.str x.1),(9,.own 9 0)] [(9,25,qc6 x.2),(504120,9,[rc1 b1000002]),(1000000,22,[ls b1000000]),(1000001,22,[ls b1000001]),(1000002,22,[.row 504120])] (Gn n x.1 x.2 b1000000 b1000001 b1000002 o2 ho2 (kt [4,5,7] [504120,1000000,1000001,1000002] [(4,.own 1000000 0),(5,.own 1000001 0),(7,.own 1000002 0)] [(504120,9,[rc1 o2]),(1000000,22,[ls b1000000]),(1000001,22,[ls b1000001]),(1000002,22,[.row 504120])] ?_))
 exact To.round o2 [504120,1000000,1000001,1000002] h (by kernel_rfl)
def vI(n:Nat)(a0:af)(a1:Ls)(a2:Ls):Option ((Ls)) :=
 (dq n a2).bind fun r1 =>
 (mj n a0).bind fun xs2 =>
 (iP n a1 a2 xs2 r1).bind fun o3 =>
 (kL n o3).bind fun r4 =>
 some r4
theorem KO(n:Nat)(a0:af)(a1:Ls)(a2:Ls)(r:(Ls))(h:vI n a0 a1 a2=some r):aJ Tryz.prog 15 [.agg (qc6 a0),ls a1,ls a2] (ls r):=by
 unfold vI at h
 refine wo (fn:=Tryz.f15) (by kernel_rfl) rfl (by kernel_rfl) (Nat.le_of_ble_eq_true (by kernel_rfl)) fun F0 w0 _=>?_
 refine kw [0,1,2] [] [(0,.agg (qc6 a0)),(1,ls a1),(2,ls a2)] [] (Wp.seq (rg [3,4,5] [3,4,5] [(3,.own 3 0),(4,.own 4 0),(5,.own 5 0)] [(3,25,qc6 a0),(4,22,[ls a1]),(5,22,[ls a2])] (To.ah (Wp.seq ?_))))
 obtain⟨r1,hr1,h⟩:=au h
 refine rb [] 1 ⟨[],[(1,11)],[ls a2],[],.row 1,[(1,9,[rc1 r1])]⟩ [3,4,5,7] [3,4,5,7,11] [(3,.own 3 0),(4,.own 4 0),(5,.own 5 0),(7,.own 7 0)] [(3,25,qc6 a0),(4,22,[ls a1]),(5,22,[ls a2]),(7,22,[.row 11]),(11,9,[rc1 r1])] ((lL n a2 _ hr1)) (To.ah (Wp.seq (Wp.seq (rr [] [(1,.fn 50 [.el (qc6 a0)])] [] [4,5,7,13] [4,5,7,11] [(4,.own 4 0),(5,.own 5 0),(7,.own 7 0),(13,.fn 50 [.el (qc6 a0)])] [(4,22,[ls a1]),(5,22,[ls a2]),(7,22,[.row 11]),(11,9,[rc1 r1])] [(true=true->CX Tryz.prog 32 [.agg (qc6 a0)] (.fn 50 [.el (qc6 a0)]))] (ai.cons (fun _=>cx (vk a0)) ai.nil) (To.ah (Wp.block ?_))))))
 obtain⟨xs2,hxs2,h⟩:=au h
 obtain⟨o3,ho3,h⟩:=au h
 refine nw [4,5,7,13] [4,5,7,11] [(11,4420)] [4,5,7,13] [4,5,7,4420] [(4,.own 4 0),(5,.own 5 0),(7,.own 7 0),(13,.fn 50 [.el (qc6 a0)])] [(4,22,[ls a1]),(5,22,[ls a2]),(7,22,[.row 4420]),(4420,9,[rc1 r1])] (Wp.yD (σ:=(Ls)) (encs:=ki) (xs:=xs2) ⟨[(1000000,4),(1000001,5),(1000002,7),(1000003,4420)],[(1000000,4),(1000001,5),(1000002,7),(504120,4420)],[],[(1000000,22,[ls a1]),(1000001,22,[ls a2]),(1000002,22,[.row 1000003]),(1000003,9,[rc1 r1])],.hole,[(504120,9,[rc1 o3]),(1000000,22,[ls a1]),(1000001,22,[ls a2]),(1000002,22,[.row 504120])]⟩ (fun r (s:(Ls))=>iP n a1 a2 r s=some o3) (fun(s:(Ls))=>[(504120,9,[rc1 s]),(1000000,22,[ls a1]),(1000001,22,[ls a2]),(1000002,22,[.row 504120])]) none [4,5,7] [7] [(4,.own 1000000 0),(5,.own 1000001 0),(7,.own 1000002 0)] [(7,.own 7 0)] [(4420,9,[rc1 o3]),(4,22,[ls a1]),(5,22,[ls a2]),(7,22,[.row 4420])] r1 (fun x (s:(Ls))=>[(4,.own 1000000 0),(5,.own 1000001 0),(7,.own 1000002 0),(8,.str x.1),(9,.own 9 0)]) (fun x (s:(Ls))=>[(9,25,qc6 x.2),(504120,9,[rc1 s]),(1000000,22,[ls a1]),(1000001,22,[ls a2]),(1000002,22,[.row 504120])]) rfl (by kernel_rfl) (by kernel_rfl) (pT n a0 xs2 hxs2) (by kernel_rfl) (by kernel_rfl) (fun s=>by kernel_rfl) (by kernel_rfl) (by kernel_rfl) (by kernel_rfl) ho3 (fun F1 w1 a w h=>St.reL [504120,1000000,1000001,1000002] (by kernel_rfl) a w (St.restart (L':=[(1000000,22,[ls a1]),(1000001,22,[ls a2]),(1000002,22,[.row 504120]),(504120,9,[rc1 r1])]) 1000003 504120 (by decide) (by kernel_rfl) (by kernel_rfl) a w (h))) (fun x=>rfl) (by decide) (by decide) (fun x=>by kernel_rfl) (by kernel_rfl) (by kernel_rfl) (fun x s=>by kernel_rfl) (fun s h=>⟨rfl,by rw[iP] at h;cases h;rfl⟩) (by kernel_rfl) (by kernel_rfl) (fun x r s h F1 w1=>?_) (fun x r s h F1 w1=>GY n a1 a2 x r s _ h) (fun F1 w1 hA=>?_))
 ·refine Wp.seq (rg [4,5,7,8,15] [504120,1000000,1000001,1000002] [(4,.own 1000000 0),(5,.own 1000001 0),(7,.own 1000002 0),(8,.str x.1),(15,.agg (qc6 x.2))] [(504120,9,[rc1 s]),(1000000,22,[ls a1]),(1000001,22,[ls a2]),(1000002,22,[.row 504120])] (To.ah (rg [4,5,7,8,9] [9,504120,1000000,1000001,1000002] [(4,.own 1000000 0),(5,.own 1000001 0),(7,.own 1000002 0),(8,.str x.1),(9,.own 9 0)] [(9,25,qc6 x.2),(504120,9,[rc1 s]),(1000000,22,[ls a1]),(1000001,22,[ls a2]),(1000002,22,[.row 504120])] (kt [4,5,7,8,9] [9,504120,1000000,1000001,1000002] [(4,.own 1000000 0),(5,.own 1000001 0),(7,.own 1000002 0),(8,.str x.1),(9,.own 9 0)] [(9,25,qc6 x.2),(504120,9,[rc1 s]),(1000000,22,[ls a1]),(1000001,22,[ls a2]),(1000002,22,[.row 504120])] ?_))))
  exact fun a w h=>⟨rfl,h⟩
 ·refine To.aO (To.ah (Wp.seq ?_))
  obtain⟨r4,hr4,h⟩:=au h
  refine rc [(1,[4420])] 1 [6] [] [(6,ls r4)] [] (uR n o3 _ hr4) (To.ah (Wp.ret ?_))
  cases h
  first|exact To.FR hΓ hA (by kernel_rfl) (by kernel_rfl)|exact To.Bj hΓ (by kernel_rfl)
def rN(n:Nat)(v1:Ls)(v2:Ls)(v8:Ls)(v9:Int)(b7:af):Option ((Ls)) :=
 if(decide (0<=v9/\v9<(List.length b7.aj:Int)))=true then((nR n v1 ((b7.aj)[Int.toNat v9]?.getD [])).bind fun r3 =>
 if((!(r3==true)||decide (0<=v9/\v9<(List.length b7.ak:Int))))=true then(((if(r3==true)=true then qa n ((b7.ak)[Int.toNat v9]?.getD (af.mk 0 [] [] [])) v2 else some false)).bind fun r4 =>
 if(bif r3 then(!r4) else false)=true then(if(decide (0<=v9/\v9<(List.length b7.ak:Int)))=true then((jU n ((b7.ak)[Int.toNat v9]?.getD (af.mk 0 [] [] []))).bind fun r5 =>
 (qH n v8 r5).bind fun r6 =>
 some r6) else none)
 else some v8) else none) else none
theorem ER(n:Nat)(v1:Ls)(v2:Ls)(v8:Ls)(v9:Int)(b7:af)(o:(Ls))(h:rN n v1 v2 v8 v9 b7=some o)(hQ:To 47 F0 w0 [(1,ls v1),(2,ls v2),(7,.own 7 0),(8,ls o),(9,vi v9)] [(7,25,qc6 b7)] .normal Q):Wp Tryz.prog 47 F0 w0 [(1,ls v1),(2,ls v2),(7,.own 7 0),(8,ls v8),(9,vi v9)] [(7,25,qc6 b7)] (cA (cB (cI (cI (cB (cA (cB (cB (cB (cF Tryz.f16)))))))))) Q:=by
 unfold rN at h
 refine Wp.block (Wp.seq ?_)
 obtain⟨hc8,h⟩:=ax h
 obtain⟨r3,hr3,h⟩:=au h
 obtain⟨hc9,h⟩:=ax h
 obtain⟨r4,hr4,h⟩:=au h
 refine rr [] [(6,vb r3),(14,vb r4)] [] [1,2,7,8,9,37] [7] [(1,ls v1),(2,ls v2),(7,.own 7 0),(8,ls v8),(9,vi v9),(37,vb (bif r3 then(!r4) else false))] [(7,25,qc6 b7)] [_,_,_,((r3==true)=true->CX Tryz.prog 38 [.agg [vi ((ex5 b7 v9).av),.str ((ex5 b7 v9).aB),ls ((ex5 b7 v9).aj),tn4 ((ex5 b7 v9).ak)],ls v2] (vb r4))] (ai.cons hc8 (ai.cons (c1 (vq n v1 (cv b7 v9) _ hr3)) (ai.cons hc9 (ai.cons (fun hg=>cx (xT n (ex5 b7 v9) v2 _ (iR hg hr4))) ai.nil)))) (To.ah (cn h (fun h=>?_) (fun h=>?_)))
 ·obtain⟨hc7,h⟩:=ax h
  obtain⟨r5,hr5,h⟩:=au h
  obtain⟨r6,hr6,h⟩:=au h
  refine rr [] [(6,ls r5),(7,ls r6)] [] [1,2,7,8,9] [7] [(1,ls v1),(2,ls v2),(7,.own 7 0),(8,ls r6),(9,vi v9)] [(7,25,qc6 b7)] [_,_,_] (ai.cons hc7 (ai.cons (c1 (qO n (ex5 b7 v9) _ hr5)) (ai.cons (c1 (zx n v8 r5 _ hr6)) ai.nil))) (To.aO ?_)
  cases h
  exact hQ
 ·refine Wp.skip (To.aO (kt [1,2,7,8,9] [7] [(1,ls v1),(2,ls v2),(7,.own 7 0),(8,ls v8),(9,vi v9)] [(7,25,qc6 b7)] ?_))
  cases h
  exact hQ
def iw(n:Nat)(v1:Ls)(v2:Ls)(b7:af):Nat->(Ls)->Int->Option ((Ls))
 |0,_,_=>none
 |k+1,v8,v9=>if(decide (v9<(List.length b7.aj:Int)))=true then((rN n v1 v2 v8 v9 b7).bind fun o3 =>
 iw n v1 v2 b7 k o3 (IntKind.wrap .i64 (v9+1)))
 else some v8
end Go.Proofs.YtpmmhhmhckpnfaaGreat.M
namespace Go.Proofs.YtpmmhhmhckpnfaaGreat.M
open Go.RowKit Go.Proofs.YtpmmhhmhckpnfaaGreat.RX
set_option maxRecDepth 100000
theorem E9(n:Nat)(v1:Ls)(v2:Ls)(b7:af){F0:Fz}{w0:Pt Tryz.prog}{Q:Exit->Act->World->Prop}(k:Nat):∀(v8:Ls)(v9:Int)(o:(Ls)),iw n v1 v2 b7 k v8 v9=some o->To 47 F0 w0 [(8,ls o)] [] (.exit 0) Q->WL Tryz.prog 47 F0 w0 [(1,ls v1),(2,ls v2),(7,.own 7 0),(8,ls v8),(9,vi v9)] [(7,25,qc6 b7)] (cI (cI (cB (cA (cB (cB (cB (cF Tryz.f16)))))))) Q:=by
 induction k with
 |zero=>intro v8 v9 o h;cases h
 |succ k ih =>
  intro v8 v9 o h hQ
  rw[iw] at h
  refine WL.round (Wp.seq (Wp.seq (rg [1,2,7,8,9,18] [7] [(1,ls v1),(2,ls v2),(7,.own 7 0),(8,ls v8),(9,vi v9),(18,vb (xq v9 b7))] [(7,25,qc6 b7)] (To.ah (cn h (fun h=>?_) (fun h=>?_))))))
  ·refine Wp.skip (To.ah (Wp.seq ?_))
   obtain⟨o3,ho3,h⟩:=au h
   refine kw [1,2,7,8,9] [7] [(1,ls v1),(2,ls v2),(7,.own 7 0),(8,ls v8),(9,vi v9)] [(7,25,qc6 b7)] (ER n v1 v2 v8 v9 b7 o3 ho3 (To.ah (rg [1,2,7,8,9] [7] [(1,ls v1),(2,ls v2),(7,.own 7 0),(8,ls o3),(xP v9)] [(7,25,qc6 b7)] (kt [1,2,7,8,9] [7] [(1,ls v1),(2,ls v2),(7,.own 7 0),(8,ls o3),(xP v9)] [(7,25,qc6 b7)] (To.again ?_)))))
   exact ih o3 (IntKind.wrap .i64 (v9+1)) _ h hQ
  ·refine Wp.exit (To.aK (To.aK (kt [8] [] [(8,ls v8)] [] ?_)))
   cases h
   exact hQ
def ud(n:Nat)(a0:af)(a1:Ls)(a2:Ls):Option ((Ls)) :=
 (iZ n a0).bind fun r1 =>
 (gi n a2).bind fun r2 =>
 (iw n a1 a2 r1 n r2 0).bind fun o3 =>
 some o3
theorem JM(n:Nat)(a0:af)(a1:Ls)(a2:Ls)(r:(Ls))(h:ud n a0 a1 a2=some r):aJ Tryz.prog 16 [.agg (qc6 a0),ls a1,ls a2] (ls r):=by
 unfold ud at h
 refine xo Tryz.f16 rfl fun F0 w0 _=>?_
 refine Wp.seq (rg [1,2,3] [3] [(1,ls a1),(2,ls a2),(3,.own 3 0)] [(3,25,qc6 a0)] (To.ah (Wp.seq ?_)))
 obtain⟨r1,hr1,h⟩:=au h
 refine rc [] 1 [1,2,7] [7] [(1,ls a1),(2,ls a2),(7,.own 7 0)] [(7,25,qc6 r1)] (mP n a0 _ hr1) (To.ah (Wp.seq ?_))
 obtain⟨r2,hr2,h⟩:=au h
 refine rc [] 1 [1,2,7,8] [7] [(1,ls a1),(2,ls a2),(7,.own 7 0),(8,ls r2)] [(7,25,qc6 r1)] (mh n a2 _ hr2) (To.ah (Wp.seq (Wp.seq (rg [1,2,7,8,9] [7] [(1,ls a1),(2,ls a2),(7,.own 7 0),(8,ls r2),(9,vi 0)] [(7,25,qc6 r1)] (To.ah (Wp.block ?_))))))
 obtain⟨o3,ho3,h⟩:=au h
 refine kw [1,2,7,8,9] [7] [(1,ls a1),(2,ls a2),(7,.own 7 0),(8,ls r2),(9,vi 0)] [(7,25,qc6 r1)] (Wp.bC (E9 n a1 a2 r1 n r2 0 o3 ho3 (To.aX (To.ah (Wp.seq (rg [6] [] [(6,ls o3)] [] (To.ah (Wp.ret ?_))))))))
 cases h
 exact To.done hΓ (by kernel_rfl)
def wX(n:Nat)(a0:af)(a1:Bs)(a2:Ls):Option (Bool) :=
 (iZ n a0).bind fun r1 =>
 (jI n r1 a1).bind fun r2 =>
 ((if(r2.2==true)=true then qa n r2.1 a2 else some false)).bind fun r3 =>
 some (bif r2.2 then r3 else false)
theorem Nl(n:Nat)(a0:af)(a1:Bs)(a2:Ls)(r:Bool)(h:wX n a0 a1 a2=some r):aJ Tryz.prog 18 [.agg (qc6 a0),.str a1,ls a2] (vb r):=by
 unfold wX at h
 refine xo Tryz.f18 rfl fun F0 w0 _=>?_
 refine Wp.seq (rg [1,2,3] [3] [(1,.str a1),(2,ls a2),(3,.own 3 0)] [(3,25,qc6 a0)] (To.ah (Wp.seq ?_)))
 obtain⟨r1,hr1,h⟩:=au h
 obtain⟨r2,hr2,h⟩:=au h
 refine rr [] [(1,.agg (qc6 r1)),(3,.tup [.agg (qc6 r2.1),vb r2.2])] [] [2,7,8] [7] [(2,ls a2),(7,.own 7 0),(8,vb r2.2)] [(7,25,qc6 r2.1)] [_,_] (ai.cons (c1 (mP n a0 _ hr1)) (ai.cons (c1 (j6 n r1 a1 _ hr2)) ai.nil)) (To.ah (Wp.seq ?_))
 obtain⟨r3,hr3,h⟩:=au h
 refine rr [] [(4,vb r3)] [] [6] [] [(6,vb (bif r2.2 then r3 else false))] [] [((r2.2==true)=true->CX Tryz.prog 38 [.agg (qc6 r2.1),ls a2] (vb r3))] (ai.cons (fun hg=>cx (xT n r2.1 a2 _ (iR hg hr3))) ai.nil) (To.ah (Wp.ret ?_))
 cases h
 exact To.done hΓ (by kernel_rfl)
def ft(n:Nat)(v1:Ls)(v2:Ls)(b7:aC):Nat->Int->Option (Sum (Unit) (Bool))
 |0,_=>none
 |k+1,v12=>if(decide (v12<(List.length v2:Int)))=true then(if(decide (0<=v12/\v12<(List.length v2:Int)))=true then((wH n b7.f_N ((v2)[Int.toNat v12]?.getD []) v1).bind fun r17 =>
 (wX n b7.f_N ((v2)[Int.toNat v12]?.getD []) v1).bind fun r18 =>
 if(!(r17==r18))=true then(some (.inr false))
 else(ft n v1 v2 b7 k (IntKind.wrap .i64 (v12+1)))) else none)
 else(some (.inl ()))
theorem yd(n:Nat)(v1:Ls)(v2:Ls)(b7:aC){F0:Fz}{w0:Pt Tryz.prog}{Q:Exit->Act->World->Prop}(k:Nat):∀(v12:Int)(o:Sum (Unit) (Bool)),ft n v1 v2 b7 k v12=some o->(Sum.elim (fun s=>To 105 F0 w0 [] [] (.exit 0) Q) (fun s=>To 105 F0 w0 [(6,vb s)] [] .ret Q)) o->WL Tryz.prog 105 F0 w0 [(1,ls v1),(2,ls v2),(7,.own 7 0),(12,vi v12)] [(7,31,(ay b7))] (cI (cI (cB (cA (cB (cB (cB (cB (cB (cB (cB (cF Tryz.f3)))))))))))) Q:=by
 induction k with
 |zero=>intro v12 o h;cases h
 |succ k ih =>
  intro v12 o h hQ
  rw[ft] at h
  refine WL.round (Wp.seq (Wp.seq (rg [1,2,7,12,84] [7] [(1,ls v1),(2,ls v2),(7,.own 7 0),(12,vi v12),(84,vb (ex4 v12 v2))] [(7,31,(ay b7))] (To.ah (cn h (fun h=>?_) (fun h=>?_))))))
  ·refine Wp.skip (To.ah (Wp.seq (Wp.block (Wp.seq ?_))))
   obtain⟨hc19,h⟩:=ax h
   obtain⟨r17,hr17,h⟩:=au h
   obtain⟨r18,hr18,h⟩:=au h
   refine Wp.bG hm hΓ [(7,vb r17),(15,vb r18)] [1,2,7,12,103] [7] (K':=[(1,ls v1),(2,ls v2),(7,.own 7 0),(12,vi v12),(103,vb (!(r17==r18)))]) (L':=[(7,31,(ay b7))]) (ob:=[(xZ v12 v2)=true,(true=true->CX Tryz.prog 17 [.agg [vi b7.f_N.av,.str b7.f_N.aB,ls b7.f_N.aj,tn4 b7.f_N.ak],.str ((v2)[Int.toNat v12]?.getD []),ls v1] (vb r17)),(xZ v12 v2)=true,(true=true->CX Tryz.prog 18 [.agg [vi b7.f_N.av,.str b7.f_N.aB,ls b7.f_N.aj,tn4 b7.f_N.ak],.str ((v2)[Int.toNat v12]?.getD []),ls v1] (vb r18))]) (by kernel_rfl) (ai.cons hc19 (ai.cons (fun _=>cx (GL n b7.f_N ((v2)[Int.toNat v12]?.getD []) v1 _ hr17)) (ai.cons hc19 (ai.cons (fun _=>cx (Nl n b7.f_N ((v2)[Int.toNat v12]?.getD []) v1 _ hr18)) ai.nil)))) (To.ah (cn h (fun h=>?_) (fun h=>?_)))
   ·refine Wp.seq (rg [6] [] [(6,vb false)] [] (To.ah (Wp.ret (To.aQ (To.aA (To.aA ?_))))))
    cases h
    exact hQ
   ·refine Wp.skip (To.aO (To.ah (rg [1,2,7,12] [7] [(1,ls v1),(2,ls v2),(7,.own 7 0),(12,vi (IntKind.wrap .i64 (v12+1)))] [(7,31,(ay b7))] (kt [1,2,7,12] [7] [(1,ls v1),(2,ls v2),(7,.own 7 0),(12,vi (IntKind.wrap .i64 (v12+1)))] [(7,31,(ay b7))] (To.again ?_)))))
    exact ih (IntKind.wrap .i64 (v12+1)) _ h hQ
  ·refine Wp.exit (To.aK (To.aK (kt [] [] [] [] ?_)))
   cases h
   exact hQ
def nS(n:Nat)(a0:af)(a1:Ls)(a2:Ls):Option (Bool) :=
 (rm n a0 300).bind fun r1 =>
 ((if((!r1)==false)=true then nI n a1 40 else some false)).bind fun r2 =>
 ((if((bif (!r1) then true else(!r2))==false)=true then nI n a2 40 else some false)).bind fun r3 =>
 if(bif (bif (!r1) then true else(!r2)) then true else(!r3))=true then((jX n).bind fun r4 =>
 some r4)
 else((ux n a0).bind fun r5 =>
 if(r5.f_E != 0)=true then((jX n).bind fun r6 =>
 some r6)
 else((oR n r5.f_N a1).bind fun r7 =>
 (pI n r5.f_N a1).bind fun r8 =>
 (jW n r7.1 r8.1).bind fun r9 =>
 ((if((!r9)==false)=true then fV n r7.2 r8.2 else some false)).bind fun r10 =>
 ((if((bif (!r9) then true else(!r10))==false)=true then uL n r5.f_N else some [])).bind fun r11 =>
 ((if((bif (!r9) then true else(!r10))==false)=true then vH n r5.f_N else some [])).bind fun r12 =>
 ((if((bif (!r9) then true else(!r10))==false)=true then fV n r11 r12 else some false)).bind fun r13 =>
 ((if((bif (bif (!r9) then true else(!r10)) then true else(!r13))==false)=true then vI n r5.f_N a2 a1 else some [])).bind fun r14 =>
 ((if((bif (bif (!r9) then true else(!r10)) then true else(!r13))==false)=true then ud n r5.f_N a2 a1 else some [])).bind fun r15 =>
 ((if((bif (bif (!r9) then true else(!r10)) then true else(!r13))==false)=true then fV n r14 r15 else some false)).bind fun r16 =>
 if(bif (bif (bif (!r9) then true else(!r10)) then true else(!r13)) then true else(!r16))=true then some false
 else((ft n a1 a2 r5 n 0).bind fun o17 =>
 (Sum.elim (fun o17=>(jX n).bind fun r18 =>
 some r18) (fun o17=>some o17)) o17)))
theorem zJ(n:Nat)(a0:af)(a1:Ls)(a2:Ls)(r:Bool)(h:nS n a0 a1 a2=some r):aJ Tryz.prog 3 [.agg (qc6 a0),ls a1,ls a2] (vb r):=by
 unfold nS at h
 refine xo Tryz.f3 rfl fun F0 w0 _=>?_
 refine Wp.seq (rg [1,2,3] [3] [(1,ls a1),(2,ls a2),(3,.own 3 0)] [(3,25,qc6 a0)] (To.ah (Wp.seq (Wp.seq ?_))))
 obtain⟨r1,hr1,h⟩:=au h
 obtain⟨r2,hr2,h⟩:=au h
 obtain⟨r3,hr3,h⟩:=au h
 refine rr [] [(1,vb r1),(5,vb r2),(10,vb r3)] [] [1,2,3,25] [3] [(1,ls a1),(2,ls a2),(3,.own 3 0),(25,vb (bif (bif (!r1) then true else(!r2)) then true else(!r3)))] [(3,25,qc6 a0)] [_,(((!r1)==false)=true->CX Tryz.prog 6 [ls a1,vi 40] (vb r2)),(((bif (!r1) then true else(!r2))==false)=true->CX Tryz.prog 6 [ls a2,vi 40] (vb r3))] (ai.cons (c1 (Hy n a0 300 _ hr1)) (ai.cons (fun hg=>cx (AL n a1 40 _ (iR hg hr2))) (ai.cons (fun hg=>cx (AL n a2 40 _ (iR hg hr3))) ai.nil))) (To.ah (cn h (fun h=>?_) (fun h=>?_)))
 ·refine Wp.seq ?_
  obtain⟨r4,hr4,h⟩:=au h
  refine rc [] 0 [6] [] [(6,vb r4)] [] (uP n  _ hr4) (To.ah (Wp.ret (To.aA ?_)))
  cases h
  exact To.done hΓ (by kernel_rfl)
 ·refine Wp.skip (To.ah (Wp.seq ?_))
  obtain⟨r5,hr5,h⟩:=au h
  refine rc [] 1 [1,2,7] [7] [(1,ls a1),(2,ls a2),(7,.own 7 0)] [(7,31,(ay r5))] (JX n a0 _ hr5) (To.ah (Wp.seq (Wp.seq (rg [1,2,7,31] [7] [(1,ls a1),(2,ls a2),(7,.own 7 0),(31,vb (r5.f_E != 0))] [(7,31,(ay r5))] (To.ah (cn h (fun h=>?_) (fun h=>?_)))))))
  ·refine Wp.seq ?_
   obtain⟨r6,hr6,h⟩:=au h
   refine rc [] 0 [6] [] [(6,vb r6)] [] (uP n  _ hr6) (To.ah (Wp.ret (To.aA ?_)))
   cases h
   exact To.done hΓ (by kernel_rfl)
  ·refine Wp.skip (To.ah (Wp.seq ?_))
   obtain⟨r7,hr7,h⟩:=au h
   refine rc [] 3 [1,2,7,8,9] [7,8] [(1,ls a1),(2,ls a2),(7,.own 7 0),(8,.own 8 0),(9,ls r7.2)] [(7,31,(ay r5)),(8,25,qc6 r7.1)] (yE n r5.f_N a1 _ hr7) (To.ah (Wp.seq ?_))
   obtain⟨r8,hr8,h⟩:=au h
   refine rc [] 3 [1,2,7,8,9,10,11] [7,8,10] [(1,ls a1),(2,ls a2),(7,.own 7 0),(8,.own 8 0),(9,ls r7.2),(10,.own 10 0),(11,ls r8.2)] [(7,31,(ay r5)),(8,25,qc6 r7.1),(10,25,qc6 r8.1)] (Gw n r5.f_N a1 _ hr8) (To.ah (Wp.seq (Wp.seq ?_)))
   obtain⟨r9,hr9,h⟩:=au h
   obtain⟨r10,hr10,h⟩:=au h
   obtain⟨r11,hr11,h⟩:=au h
   obtain⟨r12,hr12,h⟩:=au h
   obtain⟨r13,hr13,h⟩:=au h
   obtain⟨r14,hr14,h⟩:=au h
   obtain⟨r15,hr15,h⟩:=au h
   obtain⟨r16,hr16,h⟩:=au h
   refine Wp.bG hm hΓ [(2,vb r9),(7,vb r10),(13,ls r11),(16,ls r12),(17,vb r13),(25,ls r14),(30,ls r15),(31,vb r16)] [1,2,7,80] [7] (K':=[(1,ls a1),(2,ls a2),(7,.own 7 0),(80,vb (bif (bif (bif (!r9) then true else(!r10)) then true else(!r13)) then true else(!r16)))]) (L':=[(7,31,(ay r5))]) (ob:=[(true=true->CX Tryz.prog 11 [.agg (qc6 r7.1),.agg (qc6 r8.1)] (vb r9)),(((!r9)==false)=true->CX Tryz.prog 12 [ls r7.2,ls r8.2] (vb r10)),(((bif (!r9) then true else(!r10))==false)=true->CX Tryz.prog 13 [.agg [vi r5.f_N.av,.str r5.f_N.aB,ls r5.f_N.aj,tn4 r5.f_N.ak]] (ls r11)),(((bif (!r9) then true else(!r10))==false)=true->CX Tryz.prog 14 [.agg [vi r5.f_N.av,.str r5.f_N.aB,ls r5.f_N.aj,tn4 r5.f_N.ak]] (ls r12)),(((bif (!r9) then true else(!r10))==false)=true->CX Tryz.prog 12 [ls r11,ls r12] (vb r13)),(((bif (bif (!r9) then true else(!r10)) then true else(!r13))==false)=true->CX Tryz.prog 15 [.agg [vi r5.f_N.av,.str r5.f_N.aB,ls r5.f_N.aj,tn4 r5.f_N.ak],ls a2,ls a1] (ls r14)),(((bif (bif (!r9) then true else(!r10)) then true else(!r13))==false)=true->CX Tryz.prog 16 [.agg [vi r5.f_N.av,.str r5.f_N.aB,ls r5.f_N.aj,tn4 r5.f_N.ak],ls a2,ls a1] (ls r15)),(((bif (bif (!r9) then true else(!r10)) then true else(!r13))==false)=true->CX Tryz.prog 12 [ls r14,ls r15] (vb r16))]) (by kernel_rfl) (ai.cons (fun _=>cx (J8 n r7.1 r8.1 _ hr9)) (ai.cons (fun hg=>cx (lU n r7.2 r8.2 _ (iR hg hr10))) (ai.cons (fun hg=>cx (DR n r5.f_N _ (iR hg hr11))) (ai.cons (fun hg=>cx (KH n r5.f_N _ (iR hg hr12))) (ai.cons (fun hg=>cx (lU n r11 r12 _ (iR hg hr13))) (ai.cons (fun hg=>cx (KO n r5.f_N a2 a1 _ (iR hg hr14))) (ai.cons (fun hg=>cx (JM n r5.f_N a2 a1 _ (iR hg hr15))) (ai.cons (fun hg=>cx (lU n r14 r15 _ (iR hg hr16))) ai.nil)))))))) (To.ah (cn h (fun h=>?_) (fun h=>?_)))
   ·refine Wp.seq (rg [6] [] [(6,vb false)] [] (To.ah (Wp.ret (To.aA ?_))))
    cases h
    exact To.done hΓ (by kernel_rfl)
   ·refine Wp.skip (To.ah (Wp.seq (Wp.seq (rg [1,2,7,12] [7] [(1,ls a1),(2,ls a2),(7,.own 7 0),(12,vi 0)] [(7,31,(ay r5))] (To.ah (Wp.block ?_))))))
    obtain⟨o17,ho17,h⟩:=au h
    refine kw [1,2,7,12] [7] [(1,ls a1),(2,ls a2),(7,.own 7 0),(12,vi 0)] [(7,31,(ay r5))] (Wp.bC (yd n a1 a2 r5 n 0 o17 ho17 ?_))
    rcases o17 with o17|o17
    ·replace h:=cy h
     refine To.aX (To.ah (Wp.seq ?_))
     obtain⟨r18,hr18,h⟩:=au h
     refine rc [] 0 [6] [] [(6,vb r18)] [] (uP n  _ hr18) (To.ah (Wp.ret ?_))
     cases h
     exact To.done hΓ (by kernel_rfl)
    ·replace h:=cH h
     refine To.aQ (To.aA ?_)
     cases h
     exact To.done hΓ (by kernel_rfl)
theorem QQ:qI Tryz.prog 3 (fun n:Int=>IntKind.min .i64<=n/\n<=IntKind.max .i64) (fun n=>[.val (.int .i64 n)]):=Qi (by kernel_rfl)
theorem AO:qI Tryz.prog 9 (fun l:Bs=>l.length<=maxLen) (fun l=>[.str l]):=PZ (by kernel_rfl)
def sF(l:Ls):Prop:=l.length<=maxLen/\∀x∈l,(List.length x<=maxLen)
theorem vR:qI Tryz.prog 22 sF (fun l=>[.recs (α:=Bs) [] aR l]):=Ni (α:=Bs) (cells:=aR) [] (by kernel_rfl) (by kernel_rfl) (of_decide_eq_true (by kernel_rfl)) AO
inductive sZ:af->Prop
 |mk (x:af) (h:(IntKind.min .i64<=x.av/\x.av<=IntKind.max .i64)/\(List.length x.aB<=maxLen)/\(sF x.aj)) (hl:x.ak.length<=maxLen) (hk:∀y∈x.ak,sZ y):sZ x
theorem Iw:qI Tryz.prog 25 sZ zr:=by
 refine Qe fun N ih=>?_
 intro H enc W fuel cs d ps hN h
 obtain⟨hl,hf⟩:=QF Tryz.underlying25 hN h
 have hl:cs.length=4:=hl.trans (by kernel_rfl)
 obtain⟨x0,w0,r0⟩:=hf 0 _ rfl (QQ.n N)
 have r0:=Kt (a':=0) (b':=1) r0 (by kernel_rfl) (by kernel_rfl)
 obtain⟨x1,w1,r1⟩:=hf 1 _ rfl (AO.n N)
 have r1:=Kt (a':=1) (b':=1) r1 (by kernel_rfl) (by kernel_rfl)
 obtain⟨x2,w2,r2⟩:=hf 2 _ rfl (vR.n N)
 have r2:=Kt (a':=2) (b':=1) r2 (by kernel_rfl) (by kernel_rfl)
 obtain⟨x3,w3,r3⟩:=hf 3 _ rfl (Na (α:=af) (pre:=fB) (kids:=eQ) (af.mk 0 [] [] []) Tryz.underlying23 (by kernel_rfl) (of_decide_eq_true (by kernel_rfl)) ih)
 have r3:=Kt (a':=3) (b':=1) r3 (by kernel_rfl) (by kernel_rfl)
 refine⟨⟨x0,x1,x2,x3⟩,.mk _ ⟨w0,w1,w2⟩ w3.1 w3.2,?_⟩
 exact parts_all (l:=[([.val (.int .i64 x0)],1),([.str x1],1),([.recs (α:=Bs) [] aR x2],1),([.tree (α:=af) (af.mk 0 [] [] []) fB eQ x3],1)]) ⟨r0,r1,r2,r3,Nat.le_of_eq hl⟩ rfl
end Go.Proofs.YtpmmhhmhckpnfaaGreat.M
