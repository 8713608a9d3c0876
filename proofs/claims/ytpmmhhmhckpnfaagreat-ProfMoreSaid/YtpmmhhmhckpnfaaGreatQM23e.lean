import Derived.Test.YtpmmhhmhckpnfaaGreatQM23d
set_option linter.all false
namespace Go.Proofs.YtpmmhhmhckpnfaaGreat.M
open Go.RowKit Go.Proofs.YtpmmhhmhckpnfaaGreat.RX
set_option maxRecDepth 100000
variable {F0:Fz} {w0:Pt Tryz.prog} {Q:Exit->Act->World->Prop}
theorem FC(n:Nat)(v4:Ls)(b1:af)(b2:af)(k:Nat):∀(v5:Bool)(v6:Int)(o:Bool),iQ n v4 b1 b2 k v5 v6=some o->To 85 F0 w0 [(2,.own 2 0),(4,ls v4),(5,vb o)] [(2,25,qc6 b2)] (.exit 0) Q->WL Tryz.prog 85 F0 w0 [(1,.own 1 0),(2,.own 2 0),(4,ls v4),(5,vb v5),(6,vi v6)] [(1,25,qc6 b1),(2,25,qc6 b2)] (cI (cI (cB (cB (cB (cT (cB (cA (cB (cB (cF Tryz.f29))))))))))) Q:=by
 induction k with
 |zero=>intro v5 v6 o h;cases h
 |succ k ih =>
  intro v5 v6 o h hQ
  rw[iQ] at h
  refine WL.round (Wp.seq (Wp.seq (rg [1,2,4,5,6,29] [1,2] [(1,.own 1 0),(2,.own 2 0),(4,ls v4),(5,vb v5),(6,vi v6),(29,vb (ex8 v6 b1))] [(1,25,qc6 b1),(2,25,qc6 b2)] (To.ah (cn h (fun h=>?_) (fun h=>?_))))))
  ·refine Wp.skip (To.ah (Wp.seq ?_))
   obtain⟨o2,ho2,h⟩:=au h
   refine kw [1,2,4,5,6] [1,2] [(1,.own 1 0),(2,.own 2 0),(4,ls v4),(5,vb v5),(6,vi v6)] [(1,25,qc6 b1),(2,25,qc6 b2)] (FH n v4 v5 v6 b1 b2 o2 ho2 (To.ah (rg [1,2,4,5,6] [1,2] [(1,.own 1 0),(2,.own 2 0),(4,ls v4),(5,vb o2),(tZ v6)] [(1,25,qc6 b1),(2,25,qc6 b2)] (kt [1,2,4,5,6] [1,2] [(1,.own 1 0),(2,.own 2 0),(4,ls v4),(5,vb o2),(tZ v6)] [(1,25,qc6 b1),(2,25,qc6 b2)] (To.again ?_)))))
   exact ih o2 (IntKind.wrap .i64 (v6+1)) _ h hQ
  ·refine Wp.exit (To.aK (To.aK (kt [2,4,5] [2] [(2,.own 2 0),(4,ls v4),(5,vb v5)] [(2,25,qc6 b2)] ?_)))
   cases h
   exact hQ
def oU(n:Nat)(v4:Ls)(v5:Bool)(v22:Bool)(b1:af)(b2:af):Option ((Ls)×Bool) :=
 if v22=true then((iQ n b1.ak b1 b2 n true 0).bind fun o2 =>
 some (b1.ak,o2))
 else(some (v4,v5))
theorem FM(n:Nat)(v4:Ls)(v5:Bool)(v22:Bool)(b1:af)(b2:af)(o:(Ls)×Bool)(h:oU n v4 v5 v22 b1 b2=some o)(hQ:To 85 F0 w0 [(2,.own 2 0),(4,ls o.1),(5,vb o.2)] [(2,25,qc6 b2)] .normal Q):Wp Tryz.prog 85 F0 w0 [(1,.own 1 0),(2,.own 2 0),(4,ls v4),(5,vb v5),(22,vb v22)] [(1,25,qc6 b1),(2,25,qc6 b2)] (cB (cA (cB (cB (cF Tryz.f29))))) Q:=by
 unfold oU at h
 refine cn h (fun h=>?_) (fun h=>?_)
 ·refine Wp.seq (rg [1,2,4] [1,2] [(1,.own 1 0),(2,.own 2 0),(4,ls b1.ak)] [(1,25,qc6 b1),(2,25,qc6 b2)] (To.ah (Wp.seq (rg [1,2,4,5] [1,2] [(1,.own 1 0),(2,.own 2 0),(4,ls b1.ak),(5,vb true)] [(1,25,qc6 b1),(2,25,qc6 b2)] (To.ah (Wp.seq (rg [1,2,4,5,6] [1,2] [(1,.own 1 0),(2,.own 2 0),(4,ls b1.ak),(5,vb true),(6,vi 0)] [(1,25,qc6 b1),(2,25,qc6 b2)] (To.ah (Wp.block ?_)))))))))
  obtain⟨o2,ho2,h⟩:=au h
  refine kw [1,2,4,5,6] [1,2] [(1,.own 1 0),(2,.own 2 0),(4,ls b1.ak),(5,vb true),(6,vi 0)] [(1,25,qc6 b1),(2,25,qc6 b2)] (Wp.bE (FC n b1.ak b1 b2 n true 0 o2 ho2 (To.aY (kt [2,4,5] [2] [(2,.own 2 0),(4,ls b1.ak),(5,vb o2)] [(2,25,qc6 b2)] ?_))))
  cases h
  exact hQ
 ·refine Wp.skip (kt [2,4,5] [2] [(2,.own 2 0),(4,ls v4),(5,vb v5)] [(2,25,qc6 b2)] ?_)
  cases h
  exact hQ
def gu(n:Nat)(v4:Ls)(b2:af):Nat->Bool->Int->af->Option (Bool×af)
 |0,_,_,_=>none
 |k+1,v5,v8,b7=>if(bif (decide (v8<(List.length v4:Int))) then v5 else false)=true then(if(decide (0<=v8/\v8<(List.length v4:Int)))=true then((il n ((v4)[Int.toNat v8]?.getD [])).bind fun r3 =>
 if(decide (0<=v8/\v8<(List.length v4:Int)))=true then((dK n b7 ((v4)[Int.toNat v8]?.getD []) (af.mk 0 [] [] [])).bind fun r4 =>
 gu n v4 b2 k r3 (IntKind.wrap .i64 (v8+1)) r4) else none) else none)
 else(some (v5,b7))
theorem FB(n:Nat)(v4:Ls)(b2:af)(k:Nat):∀(v5:Bool)(v8:Int)(b7:af)(o:Bool×af),gu n v4 b2 k v5 v8 b7=some o->To 85 F0 w0 [(2,.own 2 0),(5,vb o.1),(7,.own 7 0)] [(2,25,qc6 b2),(7,25,qc6 o.2)] (.exit 2) Q->WL Tryz.prog 85 F0 w0 [(2,.own 2 0),(4,ls v4),(5,vb v5),(7,.own 7 0),(8,vi v8)] [(2,25,qc6 b2),(7,25,qc6 b7)] (cI (cI (cB (cA (cB (cB (cB (cB (cF Tryz.f29))))))))) Q:=by
 induction k with
 |zero=>intro v5 v8 b7 o h;cases h
 |succ k ih =>
  intro v5 v8 b7 o h hQ
  rw[gu] at h
  refine WL.round (Wp.seq (Wp.seq (rg [2,4,5,7,8,65] [2,7] [(2,.own 2 0),(4,ls v4),(5,vb v5),(7,.own 7 0),(8,vi v8),(65,vb (bif (ex4 v8 v4) then v5 else false))] [(2,25,qc6 b2),(7,25,qc6 b7)] (To.ah (cn h (fun h=>?_) (fun h=>?_))))))
  ·refine Wp.skip (To.ah (Wp.seq (Wp.block (Wp.seq ?_))))
   obtain⟨hc6,h⟩:=ax h
   obtain⟨r3,hr3,h⟩:=au h
   refine rr [] [(4,vb r3)] [] [2,4,5,7,8] [2,7] [(2,.own 2 0),(4,ls v4),(5,vb r3),(7,.own 7 0),(8,vi v8)] [(2,25,qc6 b2),(7,25,qc6 b7)] [_,_] (ai.cons hc6 (ai.cons (c1 (jW n ((v4)[Int.toNat v8]?.getD []) _ hr3)) ai.nil)) (To.ah ?_)
   obtain⟨hc5,h⟩:=ax h
   obtain⟨r4,hr4,h⟩:=au h
   refine Wp.bI hm hΓ [(6,.agg (qc6 r4))] [2,4,5,7,8] [2,7] (K':=[(2,.own 2 0),(4,ls v4),(5,vb r3),(7,.own 7 0),(8,vi v8)]) (L':=[(2,25,qc6 b2),(7,25,qc6 r4)]) (ob:=[(zw v8 v4)=true,(true=true->CX Tryz.prog 30 [.agg (qc6 b7),.str ((v4)[Int.toNat v8]?.getD []),.agg [vi 0,.str [],.val (.slice none 0 0),.val (.slice none 0 0)]] (.agg (qc6 r4)))]) (by kernel_rfl) (ai.cons hc5 (ai.cons (fun _=>cx (qI (.cons (.refl _) (.cons (.refl _) (.cons (.agg (.cons (.refl _) (.cons (.refl _) (.cons (.zero _ _) (.cons (.bu _ _ _) .nil))))) .nil))) (eu n b7 ((v4)[Int.toNat v8]?.getD []) zx3 _ hr4))) ai.nil)) (To.aR (To.ah (rg [2,4,5,7,8] [2,7] [(2,.own 2 0),(4,ls v4),(5,vb r3),(7,.own 7 0),(xE v8)] [(2,25,qc6 b2),(7,25,qc6 r4)] (kt [2,4,5,7,8] [2,7] [(2,.own 2 0),(4,ls v4),(5,vb r3),(7,.own 7 0),(xE v8)] [(2,25,qc6 b2),(7,25,qc6 r4)] (To.again ?_)))))
   exact ih r3 (IntKind.wrap .i64 (v8+1)) r4 _ h hQ
  ·refine Wp.exit (To.aK (To.aK (kt [2,5,7] [2,7] [(2,.own 2 0),(5,vb v5),(7,.own 7 0)] [(2,25,qc6 b2),(7,25,qc6 b7)] ?_)))
   cases h
   exact hQ
def rN(n:Nat)(a0:af):Option (af×Bool) :=
 (fM n a0).bind fun r1 =>
 (oU n r1.1 r1.2 (bif (a0.av==3) then(decide ((List.length a0.ak:Int)<=32)) else false) a0 (af.mk 0 [] [] [])).bind fun o2 =>
 (gu n o2.1 (af.mk 0 [] [] []) n o2.2 0 (af.mk 0 [] [] [])).bind fun o3 =>
 (eO n o3.2 o3.1).bind fun r4 =>
 some (r4.1,r4.2)
abbrev Aa(x0:af):=(bif (x0.av==3) then(decide ((List.length x0.ak:Int)<=32)) else false)
theorem AY(n:Nat)(a0:af)(r:af×Bool)(h:rN n a0=some r):aJ Tryz.prog 29 [.agg (qc6 a0)] (.tup [.agg (qc6 r.1),vb r.2]):=by
 unfold rN at h
 refine xo Tryz.f29 rfl fun F0 w0 _=>?_
 refine Wp.seq (rg [1,2] [1,2] [(1,.own 1 0),(2,.own 2 0)] [(1,25,qc6 a0),(2,25,[vi 0,.str [],.val (.slice none 0 0),.val (.slice none 0 0)])] (To.ah (Wp.seq ?_)))
 obtain⟨r1,hr1,h⟩:=au h
 refine rc [] 1 [1,2,4,5] [1,2] [(1,.own 1 0),(2,.own 2 0),(4,ls r1.1),(5,vb r1.2)] [(1,25,qc6 a0),(2,25,[vi 0,.str [],.val (.slice none 0 0),.val (.slice none 0 0)])] (mT n a0 _ hr1) (To.ah (Wp.seq (Wp.seq (rg [1,2,4,5,22] [1,2] [(1,.own 1 0),(2,.own 2 0),(4,ls r1.1),(5,vb r1.2),(22,vb (Aa a0))] [(1,25,qc6 a0),(2,25,[vi 0,.str [],.val (.slice none 0 0),.val (.slice none 0 0)])] (To.ah ?_)))))
 obtain⟨o2,ho2,h⟩:=au h
 refine kw [1,2,4,5,22] [1,2] [(1,.own 1 0),(2,.own 2 0),(4,ls r1.1),(5,vb r1.2),(22,vb (Aa a0))] [(1,25,qc6 a0),(2,25,[vi 0,.str [],.val (.slice none 0 0),.val (.slice none 0 0)])] (Wp.weak (K':=[(1,.own 1 0),(2,.own 2 0),(4,ls r1.1),(5,vb r1.2),(22,vb (Aa a0))]) (L':=[(1,25,qc6 a0),(2,25,[vi 0,.str [],ls [],tn4 []])]) (.cons (.refl _) (.cons (.refl _) (.cons (.refl _) (.cons (.refl _) (.cons (.refl _) .nil))))) (.cons (.cons (.refl _) (.cons (.refl _) (.cons (.refl _) (.cons (.refl _) .nil)))) (.cons (.cons (.refl _) (.cons (.refl _) (.cons (.zero _ _) (.cons (.bu _ _ _) .nil)))) .nil)) (FM n r1.1 r1.2 (Aa a0) a0 zx3 o2 ho2 (To.ah (Wp.seq (rg [2,4,5,7] [2,7] [(2,.own 2 0),(4,ls o2.1),(5,vb o2.2),(7,.own 7 0)] [(2,25,[vi 0,.str [],ls [],tn4 []]),(7,25,[vi 0,.str [],.val (.slice none 0 0),.val (.slice none 0 0)])] (To.ah (Wp.seq (Wp.seq (rg [2,4,5,7,8] [2,7] [(2,.own 2 0),(4,ls o2.1),(5,vb o2.2),(7,.own 7 0),(8,vi 0)] [(2,25,[vi 0,.str [],ls [],tn4 []]),(7,25,[vi 0,.str [],.val (.slice none 0 0),.val (.slice none 0 0)])] (To.ah (Wp.block ?_)))))))))))
 obtain⟨o3,ho3,h⟩:=au h
 refine kw [2,4,5,7,8] [2,7] [(2,.own 2 0),(4,ls o2.1),(5,vb o2.2),(7,.own 7 0),(8,vi 0)] [(2,25,[vi 0,.str [],ls [],tn4 []]),(7,25,[vi 0,.str [],.val (.slice none 0 0),.val (.slice none 0 0)])] (Wp.weak (K':=[(2,.own 2 0),(4,ls o2.1),(5,vb o2.2),(7,.own 7 0),(8,vi 0)]) (L':=[(2,25,[vi 0,.str [],ls [],tn4 []]),(7,25,[vi 0,.str [],ls [],tn4 []])]) (.cons (.refl _) (.cons (.refl _) (.cons (.refl _) (.cons (.refl _) (.cons (.refl _) .nil))))) (.cons (.cons (.refl _) (.cons (.refl _) (.cons (.refl _) (.cons (.refl _) .nil)))) (.cons (.cons (.refl _) (.cons (.refl _) (.cons (.zero _ _) (.cons (.bu _ _ _) .nil)))) .nil)) (Wp.bE (FB n o2.1 zx3 n o2.2 0 zx3 o3 ho3 (To.aY (To.ah (Wp.seq ?_))))))
 obtain⟨r4,hr4,h⟩:=au h
 refine rc [] 2 [2,3] [2] [(2,.own 2 0),(3,vb r4.2)] [(2,25,qc6 r4.1)] (jK n o3.2 o3.1 _ hr4) (To.ah (Wp.ret ?_))
 cases h
 exact To.done hΓ (by kernel_rfl)
structure aH where
 bD:Bs
 dm:Int
 jl:Int
 dc:Bs
def tJ(n:Nat)(v0:Bs)(v1:Int)(v5:Ls)(v6:Int)(v7:Int):Option ((Ls)×Int) :=
 if(decide (0<=v7/\v7<(List.length v0:Int)))=true then(if((((v0)[Int.toNat v7]?.getD 0).toNat:Int)==v1)=true then(if(decide (0<=v7/\v7<=(List.length v0:Int)))=true then(if(decide (0<=v6/\v6<=v7))=true then(if(decide ((List.length v5+List.length ([(List.take (Int.toNat v7-Int.toNat v6) (List.drop (Int.toNat v6) v0))]:Ls))*(16+1)<=limit))=true then(some ((v5++([(List.take (Int.toNat v7-Int.toNat v6) (List.drop (Int.toNat v6) v0))]:Ls)),(IntKind.wrap .i64 (v7+1)))) else none) else none) else none)
 else(some (v5,v6))) else none
abbrev yo(x0:Int)(x1:Int)(x2:Bs):=(List.take (Int.toNat x0-Int.toNat x1) (List.drop (Int.toNat x1) x2))
abbrev AU(x0:Int)(x1:Int)(x2:Bs):=([(yo x0 x1 x2)]:Ls)
theorem FU(n:Nat)(v0:Bs)(v1:Int)(v5:Ls)(v6:Int)(v7:Int)(o:(Ls)×Int)(h:tJ n v0 v1 v5 v6 v7=some o)(hQ:To 35 F0 w0 [(0,.str v0),(1,.val (.int .u8 v1)),(5,.row 1005),(6,vi o.2),(7,vi v7)] [(1005,9,[rc1 o.1])] .normal Q):Wp Tryz.prog 35 F0 w0 [(0,.str v0),(1,.val (.int .u8 v1)),(5,.row 1005),(6,vi v6),(7,vi v7)] [(1005,9,[rc1 v5])] (cA (cB (cI (cI (cB (cA (cB (cB (cB (cF Tryz.f129)))))))))) Q:=by
 unfold tJ at h
 refine Wp.block (Wp.seq ?_)
 obtain⟨hc4,h⟩:=ax h
 refine r0 [0,1,5,6,7,19] [1005] [(0,.str v0),(1,.val (.int .u8 v1)),(5,.row 1005),(6,vi v6),(7,vi v7),(19,vb ((bK v0 v7)==v1))] [(1005,9,[rc1 v5])] (ai.cons hc4 ai.nil) (To.ah (cn h (fun h=>?_) (fun h=>?_)))
 ·refine Wp.seq ?_
  obtain⟨hc1,h⟩:=ax h
  obtain⟨hc2,h⟩:=ax h
  obtain⟨hc3,h⟩:=ax h
  refine rr [] [(5,ls [(yo v7 v6 v0)]),(6,ls (v5++(AU v7 v6 v0)))] [] [0,1,5,7] [26] [(0,.str v0),(1,.val (.int .u8 v1)),(5,.row 26),(7,vi v7)] [(26,9,[rc1 (v5++(AU v7 v6 v0))])] [_,_,(ck 1 [.str (yo v7 v6 v0)] 1 (ls [(yo v7 v6 v0)])/\aM (ls [(yo v7 v6 v0)])),_,(gY [] aW v5 (List.flatMap aW (AU v7 v6 v0)) (List.length (AU v7 v6 v0)) (ls (v5++(AU v7 v6 v0)))/\aM (ls (v5++(AU v7 v6 v0))))] (ai.cons hc1 (ai.cons hc2 (ai.cons (du (by kernel_rfl) rfl (by kernel_rfl) (aI _)) (ai.cons hc3 (ai.cons (iI rfl rfl (aI _)) ai.nil))))) (To.ah (rg [0,1,5,6,7] [26] [(0,.str v0),(1,.val (.int .u8 v1)),(5,.row 26),(tZ v7),(7,vi v7)] [(26,9,[rc1 (v5++(AU v7 v6 v0))])] (To.aR (nt [0,1,5,6,7] [26] [(26,1005)] [0,1,5,6,7] [1005] [(0,.str v0),(1,.val (.int .u8 v1)),(5,.row 1005),(tZ v7),(7,vi v7)] [(1005,9,[rc1 (v5++(AU v7 v6 v0))])] ?_))))
  cases h
  exact hQ
 ·refine Wp.skip (To.aR (kt [0,1,5,6,7] [1005] [(0,.str v0),(1,.val (.int .u8 v1)),(5,.row 1005),(6,vi v6),(7,vi v7)] [(1005,9,[rc1 v5])] ?_))
  cases h
  exact hQ
def lh(n:Nat)(v0:Bs)(v1:Int):Nat->(Ls)->Int->Int->Option ((Ls)×Int)
 |0,_,_,_=>none
 |k+1,v5,v6,v7=>if(decide (v7<(List.length v0:Int)))=true then((tJ n v0 v1 v5 v6 v7).bind fun o1 =>
 lh n v0 v1 k o1.1 o1.2 (IntKind.wrap .i64 (v7+1)))
 else(some (v5,v6))
theorem Ge(n:Nat)(v0:Bs)(v1:Int)(k:Nat):∀(v5:Ls)(v6:Int)(v7:Int)(o:(Ls)×Int),lh n v0 v1 k v5 v6 v7=some o->To 35 F0 w0 [(0,.str v0),(5,.row 1005),(6,vi o.2)] [(1005,9,[rc1 o.1])] (.exit 0) Q->WL Tryz.prog 35 F0 w0 [(0,.str v0),(1,.val (.int .u8 v1)),(5,.row 1005),(6,vi v6),(7,vi v7)] [(1005,9,[rc1 v5])] (cI (cI (cB (cA (cB (cB (cB (cF Tryz.f129)))))))) Q:=by
 induction k with
 |zero=>intro v5 v6 v7 o h;cases h
 |succ k ih =>
  intro v5 v6 v7 o h hQ
  rw[lh] at h
  refine WL.round (Wp.seq (Wp.seq (rg [0,1,5,6,7,12] [1005] [(0,.str v0),(1,.val (.int .u8 v1)),(5,.row 1005),(6,vi v6),(7,vi v7),(12,vb (mj v7 v0))] [(1005,9,[rc1 v5])] (To.ah (cn h (fun h=>?_) (fun h=>?_))))))
  ·refine Wp.skip (To.ah (Wp.seq ?_))
   obtain⟨o1,ho1,h⟩:=au h
   refine kw [0,1,5,6,7] [1005] [(0,.str v0),(1,.val (.int .u8 v1)),(5,.row 1005),(6,vi v6),(7,vi v7)] [(1005,9,[rc1 v5])] (FU n v0 v1 v5 v6 v7 o1 ho1 (To.ah (rg [0,1,5,6,7] [1005] [(0,.str v0),(1,.val (.int .u8 v1)),(5,.row 1005),(6,vi o1.2),(ex7 v7)] [(1005,9,[rc1 o1.1])] (kt [0,1,5,6,7] [1005] [(0,.str v0),(1,.val (.int .u8 v1)),(5,.row 1005),(6,vi o1.2),(ex7 v7)] [(1005,9,[rc1 o1.1])] (To.again ?_)))))
   exact ih o1.1 o1.2 (IntKind.wrap .i64 (v7+1)) _ h hQ
  ·refine Wp.exit (To.aK (To.aK (kt [0,5,6] [1005] [(0,.str v0),(5,.row 1005),(6,vi v6)] [(1005,9,[rc1 v5])] ?_)))
   cases h
   exact hQ
def l5(n:Nat)(a0:Bs)(a1:Int):Option ((Ls)) :=
 (lh n a0 a1 n ([]:Ls) 0 0).bind fun o1 =>
 if(decide (0<=o1.2/\o1.2<=(List.length a0:Int)))=true then(if(decide ((List.length o1.1+List.length ([(List.drop (Int.toNat o1.2) a0)]:Ls))*(16+1)<=limit))=true then(some (o1.1++([(List.drop (Int.toNat o1.2) a0)]:Ls))) else none) else none
theorem As(n:Nat)(a0:Bs)(a1:Int)(r:(Ls))(h:l5 n a0 a1=some r):aJ Tryz.prog 129 [.str a0,.val (.int .u8 a1)] (ls r):=by
 unfold l5 at h
 refine xo Tryz.f129 rfl fun F0 w0 _=>?_
 refine Wp.seq (rg [0,1] [] [(0,.str a0),(1,.val (.int .u8 a1))] [] (To.ah (Wp.seq (rr [] [(0,ls [])] [] [0,1,5] [8] [(0,.str a0),(1,.val (.int .u8 a1)),(5,.row 8)] [(8,9,[rc1 []])] [(ck 1 [] 0 (ls [])/\aM (ls []))] (ai.cons (du (by kernel_rfl) rfl (by kernel_rfl) (aI _)) ai.nil) (To.ah (Wp.seq (rg [0,1,5,6] [8] [(0,.str a0),(1,.val (.int .u8 a1)),(5,.row 8),(6,vi 0)] [(8,9,[rc1 []])] (To.ah (Wp.seq (Wp.seq ?_))))))))))
 refine rg [0,1,5,6,7] [8] [(0,.str a0),(1,.val (.int .u8 a1)),(5,.row 8),(6,vi 0),(7,vi 0)] [(8,9,[rc1 []])] (To.ah (Wp.block ?_))
 obtain⟨o1,ho1,h⟩:=au h
 refine nw [0,1,5,6,7] [8] [(8,1005)] [0,1,5,6,7] [1005] [(0,.str a0),(1,.val (.int .u8 a1)),(5,.row 1005),(6,vi 0),(7,vi 0)] [(1005,9,[rc1 []])] (Wp.bE (Ge n a0 a1 n ([]:Ls) 0 0 o1 ho1 (To.aY (To.ah (Wp.seq ?_)))))
 obtain⟨hc2,h⟩:=ax h
 obtain⟨hc3,h⟩:=ax h
 refine rr [] [(4,ls [(List.drop (Int.toNat o1.2) a0)]),(5,ls (o1.1++([(List.drop (Int.toNat o1.2) a0)]:Ls)))] [] [4] [34] [(4,.row 34)] [(34,9,[rc1 (o1.1++([(List.drop (Int.toNat o1.2) a0)]:Ls))])] [_,(ck 1 [.str (List.drop (Int.toNat o1.2) a0)] 1 (ls [(List.drop (Int.toNat o1.2) a0)])/\aM (ls [(List.drop (Int.toNat o1.2) a0)])),_,(gY [] aW o1.1 (List.flatMap aW ([(List.drop (Int.toNat o1.2) a0)]:Ls)) (List.length ([(List.drop (Int.toNat o1.2) a0)]:Ls)) (ls (o1.1++([(List.drop (Int.toNat o1.2) a0)]:Ls)))/\aM (ls (o1.1++([(List.drop (Int.toNat o1.2) a0)]:Ls))))] (ai.cons hc2 (ai.cons (du (by kernel_rfl) rfl (by kernel_rfl) (aI _)) (ai.cons hc3 (ai.cons (iI rfl rfl (aI _)) ai.nil)))) (To.ah (Wp.ret (To.pre (St.settle (ks:=[34]) (kk:=[4]) (kl:=[34]) (K':=[(4,.row 34)]) (L':=[(34,9,[rc2 (o1.1++([(List.drop (Int.toNat o1.2) a0)]:Ls))])]) (by kernel_rfl)) (To.pre (St.xk [4] (K':=[(4,ls (o1.1++([(List.drop (Int.toNat o1.2) a0)]:Ls)))]) (by kernel_rfl)) ?_))))
 cases h
 exact To.done hΓ (by kernel_rfl)
def ig(n:Nat)(v3:Ls):Nat->Int->Option (Sum (Unit) (Bool))
 |0,_=>none
 |k+1,v4=>if(decide (v4<4))=true then(if(decide (0<=v4/\v4<(List.length v3:Int)))=true then((fL n ((v3)[Int.toNat v4]?.getD []) 255).bind fun r2 =>
 if(r2.2 != 0)=true then(some (.inr false))
 else(ig n v3 k (IntKind.wrap .i64 (v4+1)))) else none)
 else(some (.inl ()))
theorem zl(n:Nat)(v3:Ls)(k:Nat):∀(v4:Int)(o:Sum (Unit) (Bool)),ig n v3 k v4=some o->(Sum.elim (fun s=>To 26 F0 w0 [] [] (.exit 0) Q) (fun s=>To 26 F0 w0 [(2,vb s)] [] .ret Q)) o->WL Tryz.prog 26 F0 w0 [(3,ls v3),(4,vi v4)] [] (cI (cI (cB (cA (cB (cB (cB (cF Tryz.f137)))))))) Q:=by
 induction k with
 |zero=>intro v4 o h;cases h
 |succ k ih =>
  intro v4 o h hQ
  rw[ig] at h
  refine WL.round (Wp.seq (Wp.seq (rg [3,4,13] [] [(3,ls v3),(4,vi v4),(13,vb (decide (v4<4)))] [] (To.ah (cn h (fun h=>?_) (fun h=>?_))))))
  ·refine Wp.skip (To.ah (Wp.seq (Wp.block (Wp.seq ?_))))
   obtain⟨hc3,h⟩:=ax h
   obtain⟨r2,hr2,h⟩:=au h
   refine rr [] [(4,.tup [vi r2.1,vi r2.2])] [] [3,4,6] [] [(3,ls v3),(4,vi v4),(6,vi r2.2)] [] [_,_] (ai.cons hc3 (ai.cons (c1 (kV n ((v3)[Int.toNat v4]?.getD []) 255 _ hr2)) ai.nil)) (To.ah (Wp.seq (rg [3,4,25] [] [(3,ls v3),(4,vi v4),(25,vb (r2.2 != 0))] [] (To.ah (cn h (fun h=>?_) (fun h=>?_))))))
   ·refine Wp.seq (rg [2] [] [(2,vb false)] [] (To.ah (Wp.ret (To.aP (To.aA (To.aA ?_))))))
    cases h
    exact hQ
   ·refine Wp.skip (To.aR (To.ah (rg [3,4] [] [(3,ls v3),(lL v4)] [] (kt [3,4] [] [(3,ls v3),(lL v4)] [] (To.again ?_)))))
    exact ih (IntKind.wrap .i64 (v4+1)) _ h hQ
  ·refine Wp.exit (To.aK (To.aK (kt [] [] [] [] ?_)))
   cases h
   exact hQ
def nM(n:Nat)(a0:Bs):Option (Bool) :=
 (l5 n a0 46).bind fun r1 =>
 if((List.length r1:Int) != 4)=true then some false
 else((ig n r1 n 0).bind fun o2 =>
 (Sum.elim (fun o2=>some true) (fun o2=>some o2)) o2)
theorem EI(n:Nat)(a0:Bs)(r:Bool)(h:nM n a0=some r):aJ Tryz.prog 137 [.str a0] (vb r):=by
 unfold nM at h
 refine xo Tryz.f137 rfl fun F0 w0 _=>?_
 refine Wp.seq (rg [0] [] [(0,.str a0)] [] (To.ah (Wp.seq ?_)))
 obtain⟨r1,hr1,h⟩:=au h
 refine rc [] 1 [3] [] [(3,ls r1)] [] (As n a0 46 _ hr1) (To.ah (Wp.seq (Wp.seq (rg [3,11] [] [(3,ls r1),(11,vb ((List.length r1:Int) != 4))] [] (To.ah (cn h (fun h=>?_) (fun h=>?_)))))))
 ·refine Wp.seq (rg [2] [] [(2,vb false)] [] (To.ah (Wp.ret (To.aA ?_))))
  cases h
  exact To.done hΓ (by kernel_rfl)
 ·refine Wp.skip (To.ah (Wp.seq (Wp.seq (rg [3,4] [] [(3,ls r1),(4,vi 0)] [] (To.ah (Wp.block ?_))))))
  obtain⟨o2,ho2,h⟩:=au h
  refine kw [3,4] [] [(3,ls r1),(4,vi 0)] [] (Wp.bE (zl n r1 n 0 o2 ho2 ?_))
  rcases o2 with o2|o2
  ·replace h:=cv h
   refine To.aY (To.ah (Wp.seq (rg [2] [] [(2,vb true)] [] (To.ah (Wp.ret ?_)))))
   cases h
   exact To.done hΓ (by kernel_rfl)
  ·replace h:=cy h
   refine To.aP (To.aA ?_)
   cases h
   exact To.done hΓ (by kernel_rfl)
def kP(n:Nat)(a0:aH):Option (Bool) :=
 aQ ((bif (bif (bif (decide (a0.jl<1)) then true else(decide (a0.jl>65535))) then true else(decide (a0.dm<0))) then true else(decide (a0.dm>65535))):Bool) fun x1 =>
 if x1=true then some false
 else(if(bif (!(a0.dc==lC)) then(!(a0.dc==nH)) else false)=true then some false
 else(((if(((List.length a0.bD:Int)==0)==false)=true then nM n a0.bD else some false)).bind fun r2 =>
 some (bif ((List.length a0.bD:Int)==0) then true else r2)))
abbrev bU(x:aH):List D:=[.str x.bD,vi x.dm,vi x.jl,.str x.dc]
theorem xU(n:Nat)(a0:aH)(r:Bool)(h:kP n a0=some r):aJ Tryz.prog 130 [.agg (bU a0)] (vb r):=by
 unfold kP at h
 refine xo Tryz.f130 rfl fun F0 w0 _=>?_
 refine Wp.seq (rg [1] [1] [(1,.own 1 0)] [(1,124,bU a0)] (To.ah (Wp.seq (Wp.seq ?_))))
 obtain⟨x1,hx1,h⟩:=aS h
 refine rg [1,20] [1] [(1,.own 1 0),(20,vb (bif (bif (bif (decide (a0.jl<1)) then true else(decide (a0.jl>65535))) then true else(decide (a0.dm<0))) then true else(decide (a0.dm>65535))))] [(1,124,bU a0)] (To.eq (K':=[(1,.own 1 0),(20,vb x1)]) (L':=[(1,124,bU a0)]) (by cases hx1;rfl) (by cases hx1;rfl) (To.ah (cn h (fun h=>?_) (fun h=>?_))))
 ·refine Wp.seq (rg [2] [] [(2,vb false)] [] (To.ah (Wp.ret (To.aA ?_))))
  cases h
  exact To.done hΓ (by kernel_rfl)
 ·refine Wp.skip (To.ah (Wp.seq (Wp.seq (rg [1,28] [1] [(1,.own 1 0),(28,vb (bif (!(a0.dc==lC)) then(!(a0.dc==nH)) else false))] [(1,124,bU a0)] (To.ah (cn h (fun h=>?_) (fun h=>?_)))))))
  ·refine Wp.seq (rg [2] [] [(2,vb false)] [] (To.ah (Wp.ret (To.aA ?_))))
   cases h
   exact To.done hΓ (by kernel_rfl)
  ·refine Wp.skip (To.ah (Wp.seq ?_))
   obtain⟨r2,hr2,h⟩:=au h
   refine rr [] [(7,vb r2)] [] [2] [] [(2,vb (bif ((List.length a0.bD:Int)==0) then true else r2))] [] [((((List.length a0.bD:Int)==0)==false)=true->CX Tryz.prog 137 [.str a0.bD] (vb r2))] (ai.cons (fun hg=>cx (EI n a0.bD _ (jB hg hr2))) ai.nil) (To.ah (Wp.ret ?_))
   cases h
   exact To.done hΓ (by kernel_rfl)
def kY(n:Nat)(v0:Bs)(v5:Int)(v34:Bool)(b2:aH)(b4:aH):Option (Bs×aH) :=
 if v34=true then(if(decide (0<=(IntKind.wrap .i64 (v5-3))/\(IntKind.wrap .i64 (v5-3))<=(List.length v0:Int)))=true then(if(decide (0<=(IntKind.wrap .i64 (v5-4))/\(IntKind.wrap .i64 (v5-4))<=(List.length v0:Int)))=true then(some ((List.take (Int.toNat (IntKind.wrap .i64 (v5-4))) v0),(aH.mk b4.bD b4.dm b4.jl (List.drop (Int.toNat (IntKind.wrap .i64 (v5-3))) v0)))) else none) else none)
 else(some (v0,b4))
abbrev QN(x0:aH)(x1:Int)(x2:Bs):Nat×Nat×List D:=(4,124,[.str x0.bD,vi x0.dm,vi x0.jl,.str (List.drop (Int.toNat (IntKind.wrap .i64 (x1-3))) x2)])
theorem C7(n:Nat)(v0:Bs)(v5:Int)(v34:Bool)(b2:aH)(b4:aH)(o:Bs×aH)(h:kY n v0 v5 v34 b2 b4=some o)(hQ:To 119 F0 w0 [(0,.str o.1),(2,.own 2 0),(4,.own 4 0)] [(2,124,bU b2),(4,124,bU o.2)] .normal Q):Wp Tryz.prog 119 F0 w0 [(0,.str v0),(2,.own 2 0),(4,.own 4 0),(5,vi v5),(34,vb v34)] [(2,124,bU b2),(4,124,bU b4)] (cB (cA (cB (cB (cB (cF Tryz.f120)))))) Q:=by
 unfold kY at h
 refine cn h (fun h=>?_) (fun h=>?_)
 ·refine Wp.seq ?_
  obtain⟨hc3,h⟩:=ax h
  refine r0 [0,2,4,5] [2,4] [(0,.str v0),(2,.own 2 0),(4,.own 4 0),(5,vi v5)] [(2,124,bU b2),(QN b4 v5 v0)] (ai.cons hc3 ai.nil) (To.ah ?_)
  obtain⟨hc2,h⟩:=ax h
  refine r0 [0,2,4] [2,4] [(0,.str (List.take (Int.toNat (IntKind.wrap .i64 (v5-4))) v0)),(2,.own 2 0),(4,.own 4 0)] [(2,124,bU b2),(QN b4 v5 v0)] (ai.cons hc2 ai.nil) (kt [0,2,4] [2,4] [(0,.str (List.take (Int.toNat (IntKind.wrap .i64 (v5-4))) v0)),(2,.own 2 0),(4,.own 4 0)] [(2,124,bU b2),(QN b4 v5 v0)] ?_)
  cases h
  exact hQ
 ·refine Wp.skip (kt [0,2,4] [2,4] [(0,.str v0),(2,.own 2 0),(4,.own 4 0)] [(2,124,bU b2),(4,124,bU b4)] ?_)
  cases h
  exact hQ
def kU(n:Nat)(v6:Ls)(v7:Int)(v9:Int)(v85:Bool)(b2:aH)(b4:aH):Option (Sum (aH×aH) (Int×aH)) :=
 if v85=true then(if(decide (0<=(IntKind.wrap .i64 (v7-2))/\(IntKind.wrap .i64 (v7-2))<(List.length v6:Int)))=true then((fL n ((v6)[Int.toNat (IntKind.wrap .i64 (v7-2))]?.getD []) 65535).bind fun r7 =>
 if(bif (r7.2 != 0) then true else(r7.1==0))=true then(some (.inr (3,(aH.mk [] 0 0 []))))
 else(some (.inl (b2,(aH.mk b4.bD r7.1 b4.jl b4.dc))))) else none)
 else(some (.inl (b2,b4)))
theorem Db(n:Nat)(v6:Ls)(v7:Int)(v9:Int)(v85:Bool)(b2:aH)(b4:aH)(o:Sum (aH×aH) (Int×aH))(h:kU n v6 v7 v9 v85 b2 b4=some o)(hQ:(Sum.elim (fun s=>To 119 F0 w0 [(2,.own 2 0),(4,.own 4 0),(6,ls v6),(7,vi v7),(9,vi v9)] [(2,124,bU s.1),(4,124,bU s.2)] .normal Q) (fun s=>To 119 F0 w0 [(2,.own 2 0),(3,vi s.1)] [(2,124,bU s.2)] .ret Q)) o):Wp Tryz.prog 119 F0 w0 [(2,.own 2 0),(4,.own 4 0),(6,ls v6),(7,vi v7),(9,vi v9),(85,vb v85)] [(2,124,bU b2),(4,124,bU b4)] (cB (cA (cB (cB (cB (cB (cB (cB (cB (cB (cB (cF Tryz.f120)))))))))))) Q:=by
 unfold kU at h
 refine cn h (fun h=>?_) (fun h=>?_)
 ·refine Wp.seq ?_
  obtain⟨hc8,h⟩:=ax h
  obtain⟨r7,hr7,h⟩:=au h
  refine rr [] [(5,.tup [vi r7.1,vi r7.2])] [] [2,4,6,7,9,10,11] [2,4] [(2,.own 2 0),(4,.own 4 0),(6,ls v6),(7,vi v7),(9,vi v9),(10,vi r7.1),(11,vi r7.2)] [(2,124,bU b2),(4,124,bU b4)] [_,_] (ai.cons hc8 (ai.cons (c1 (kV n ((v6)[Int.toNat (IntKind.wrap .i64 (v7-2))]?.getD []) 65535 _ hr7)) ai.nil)) (To.ah (Wp.seq (rg [2,4,6,7,9,10,11] [2,4] [(2,.own 2 0),(4,.own 4 0),(6,ls v6),(7,vi v7),(9,vi v9),(10,vi r7.1),(11,vi r7.2)] [(2,124,bU b2),(4,124,[.str b4.bD,vi r7.1,vi b4.jl,.str b4.dc])] (To.ah (Wp.seq (rg [2,4,6,7,9,102] [2,4] [(2,.own 2 0),(4,.own 4 0),(6,ls v6),(7,vi v7),(9,vi v9),(102,vb (bif (r7.2 != 0) then true else(r7.1==0)))] [(2,124,bU b2),(4,124,[.str b4.bD,vi r7.1,vi b4.jl,.str b4.dc])] (To.ah (cn h (fun h=>?_) (fun h=>?_)))))))))
  ·refine Wp.seq (rg [2,3] [2] [(2,.own 2 0),(3,vi 3)] [(2,124,[.str [],vi 0,vi 0,.str []])] (To.ah (Wp.ret ?_)))
   cases h
   exact hQ
  ·refine Wp.skip (kt [2,4,6,7,9] [2,4] [(2,.own 2 0),(4,.own 4 0),(6,ls v6),(7,vi v7),(9,vi v9)] [(2,124,bU b2),(4,124,[.str b4.bD,vi r7.1,vi b4.jl,.str b4.dc])] ?_)
   cases h
   exact hQ
 ·refine Wp.skip (kt [2,4,6,7,9] [2,4] [(2,.own 2 0),(4,.own 4 0),(6,ls v6),(7,vi v7),(9,vi v9)] [(2,124,bU b2),(4,124,bU b4)] ?_)
  cases h
  exact hQ
def pY(n:Nat)(v6:Ls)(v9:Int)(v105:Bool)(b2:aH)(b4:aH):Option (aH) :=
 if v105=true then(if(decide (0<=(0:Int)/\(0:Int)<(List.length v6:Int)))=true then(some (aH.mk ((v6)[Int.toNat 0]?.getD []) b4.dm b4.jl b4.dc)) else none)
 else some b4
theorem BX(n:Nat)(v6:Ls)(v9:Int)(v105:Bool)(b2:aH)(b4:aH)(o:aH)(h:pY n v6 v9 v105 b2 b4=some o)(hQ:To 119 F0 w0 [(2,.own 2 0),(4,.own 4 0),(9,vi v9)] [(2,124,bU b2),(4,124,bU o)] .normal Q):Wp Tryz.prog 119 F0 w0 [(2,.own 2 0),(4,.own 4 0),(6,ls v6),(9,vi v9),(105,vb v105)] [(2,124,bU b2),(4,124,bU b4)] (cB (cA (cB (cB (cB (cB (cB (cB (cB (cB (cB (cB (cF Tryz.f120))))))))))))) Q:=by
 unfold pY at h
 refine cn h (fun h=>?_) (fun h=>?_)
 ·obtain⟨hc8,h⟩:=ax h
  refine r0 [2,4,9] [2,4] [(2,.own 2 0),(4,.own 4 0),(9,vi v9)] [(2,124,bU b2),(4,124,[.str ((v6)[Int.toNat 0]?.getD []),vi b4.dm,vi b4.jl,.str b4.dc])] (ai.cons hc8 ai.nil) (kt [2,4,9] [2,4] [(2,.own 2 0),(4,.own 4 0),(9,vi v9)] [(2,124,bU b2),(4,124,[.str ((v6)[Int.toNat 0]?.getD []),vi b4.dm,vi b4.jl,.str b4.dc])] ?_)
  cases h
  exact hQ
 ·refine Wp.skip (kt [2,4,9] [2,4] [(2,.own 2 0),(4,.own 4 0),(9,vi v9)] [(2,124,bU b2),(4,124,bU b4)] ?_)
  cases h
  exact hQ
def qA(n:Nat)(a0:Bs):Option (aH×Int) :=
 if((!((decide ((List.length a0:Int)>4))==true)||decide (0<=(IntKind.wrap .i64 ((List.length a0:Int)-4))/\(IntKind.wrap .i64 ((List.length a0:Int)-4))<=(List.length a0:Int))))=true then(if((!(((decide ((List.length a0:Int)>4))==true)&&((bif (decide ((List.length a0:Int)>4)) then((List.drop (Int.toNat (IntKind.wrap .i64 ((List.length a0:Int)-4))) a0)==yH) else false)==false))||decide (0<=(IntKind.wrap .i64 ((List.length a0:Int)-4))/\(IntKind.wrap .i64 ((List.length a0:Int)-4))<=(List.length a0:Int))))=true then(aQ ((bif (bif (decide ((List.length a0:Int)>4)) then((List.drop (Int.toNat (IntKind.wrap .i64 ((List.length a0:Int)-4))) a0)==yH) else false) then true else(bif (decide ((List.length a0:Int)>4)) then((List.drop (Int.toNat (IntKind.wrap .i64 ((List.length a0:Int)-4))) a0)==qT) else false)):Bool) fun x1 =>
 (kY n a0 (List.length a0:Int) x1 (aH.mk [] 0 0 []) (aH.mk [] 0 0 lC)).bind fun o2 =>
 (l5 n o2.1 58).bind fun r3 =>
 if((!((((List.length r3:Int)==3)==true)&&((decide ((List.length r3:Int)>3))==false))||decide (0<=(0:Int)/\(0:Int)<(List.length r3:Int))))=true then(aQ ((bif (decide ((List.length r3:Int)>3)) then true else(bif ((List.length r3:Int)==3) then((List.length ((r3)[Int.toNat 0]?.getD []):Int)==0) else false)):Bool) fun x4 =>
 if x4=true then(some ((aH.mk [] 0 0 []),3))
 else(if(decide (0<=(IntKind.wrap .i64 ((List.length r3:Int)-1))/\(IntKind.wrap .i64 ((List.length r3:Int)-1))<(List.length r3:Int)))=true then((fL n ((r3)[Int.toNat (IntKind.wrap .i64 ((List.length r3:Int)-1))]?.getD []) 65535).bind fun r5 =>
 if((!((((List.length r3:Int)==2)==false)&&((decide ((List.length r3:Int)>1))==true))||decide (0<=(1:Int)/\(1:Int)<(List.length r3:Int))))=true then(aQ ((bif (decide ((List.length r3:Int)>1)) then(bif ((List.length r3:Int)==2) then true else(decide ((List.length ((r3)[Int.toNat 1]?.getD []):Int)>0))) else false):Bool) fun x6 =>
 (kU n r3 (List.length r3:Int) r5.2 x6 (aH.mk [] 0 0 []) (aH.mk o2.2.bD o2.2.dm r5.1 o2.2.dc)).bind fun o7 =>
 (Sum.elim (fun o7=>(pY n r3 r5.2 ((List.length r3:Int)==3) o7.1 o7.2).bind fun o8 =>
 ((if((r5.2 != 0)==false)=true then kP n o8 else some false)).bind fun r9 =>
 if(bif (r5.2 != 0) then true else(!r9))=true then(some ((aH.mk [] 0 0 []),3))
 else(some (o8,0))) (fun o7=>some (o7.2,o7.1))) o7) else none) else none)) else none) else none) else none
abbrev Ub:aH:=aH.mk [] 0 0 []
abbrev TU(x0:Bs):=(IntKind.wrap .i64 ((List.length x0:Int)-4))
abbrev zC(x0:Bs):Nat×D:=(5,vi (List.length x0:Int))
theorem G3(n:Nat)(a0:Bs)(r:aH×Int)(h:qA n a0=some r):aJ Tryz.prog 120 [.str a0] (.tup [.agg (bU r.1),vi r.2]):=by
 unfold qA at h
 refine xo Tryz.f120 rfl fun F0 w0 _=>?_
 refine Wp.seq (rg [0,2] [2] [(0,.str a0),(2,.own 2 0)] [(2,124,[.str [],vi 0,vi 0,.str []])] (To.ah (Wp.seq (rg [0,2,4] [2,4] [(0,.str a0),(2,.own 2 0),(4,.own 4 0)] [(2,124,[.str [],vi 0,vi 0,.str []]),(4,124,[.str [],vi 0,vi 0,.str lC])] (To.ah (Wp.seq (rg [0,2,4,5] [2,4] [(0,.str a0),(2,.own 2 0),(4,.own 4 0),(zC a0)] [(2,124,[.str [],vi 0,vi 0,.str []]),(4,124,[.str [],vi 0,vi 0,.str lC])] (To.ah (Wp.seq (Wp.seq ?_))))))))))
 obtain⟨hc13,h⟩:=ax h
 obtain⟨hc14,h⟩:=ax h
 obtain⟨x1,hx1,h⟩:=aS h
 refine r0 [0,2,4,5,34] [2,4] [(0,.str a0),(2,.own 2 0),(4,.own 4 0),(zC a0),(34,vb (bif (bif (decide ((List.length a0:Int)>4)) then((List.drop (Int.toNat (TU a0)) a0)==yH) else false) then true else(bif (decide ((List.length a0:Int)>4)) then((List.drop (Int.toNat (TU a0)) a0)==qT) else false)))] [(2,124,[.str [],vi 0,vi 0,.str []]),(4,124,[.str [],vi 0,vi 0,.str lC])] (ai.cons hc13 (ai.cons hc14 ai.nil)) (To.eq (K':=[(0,.str a0),(2,.own 2 0),(4,.own 4 0),(zC a0),(34,vb x1)]) (L':=[(2,124,[.str [],vi 0,vi 0,.str []]),(4,124,[.str [],vi 0,vi 0,.str lC])]) (by cases hx1;rfl) (by cases hx1;rfl) (To.ah ?_))
 obtain⟨o2,ho2,h⟩:=au h
 refine kw [0,2,4,5,34] [2,4] [(0,.str a0),(2,.own 2 0),(4,.own 4 0),(zC a0),(34,vb x1)] [(2,124,[.str [],vi 0,vi 0,.str []]),(4,124,[.str [],vi 0,vi 0,.str lC])] (C7 n a0 (List.length a0:Int) x1 Ub (aH.mk [] 0 0 lC) o2 ho2 (To.ah (Wp.seq ?_)))
 obtain⟨r3,hr3,h⟩:=au h
 refine rc [] 1 [2,4,6] [2,4] [(2,.own 2 0),(4,.own 4 0),(6,ls r3)] [(2,124,[.str [],vi 0,vi 0,.str []]),(4,124,bU o2.2)] (As n o2.1 58 _ hr3) (To.ah (Wp.seq (rg [2,4,6,7] [2,4] [(2,.own 2 0),(4,.own 4 0),(6,ls r3),(7,vi (List.length r3:Int))] [(2,124,[.str [],vi 0,vi 0,.str []]),(4,124,bU o2.2)] (To.ah (Wp.seq (Wp.seq ?_))))))
 obtain⟨hc12,h⟩:=ax h
 obtain⟨x4,hx4,h⟩:=aS h
 refine r0 [2,4,6,7,60] [2,4] [(2,.own 2 0),(4,.own 4 0),(6,ls r3),(7,vi (List.length r3:Int)),(60,vb (bif (decide ((List.length r3:Int)>3)) then true else(bif ((List.length r3:Int)==3) then((List.length ((r3)[Int.toNat 0]?.getD []):Int)==0) else false)))] [(2,124,[.str [],vi 0,vi 0,.str []]),(4,124,bU o2.2)] (ai.cons hc12 ai.nil) (To.eq (K':=[(2,.own 2 0),(4,.own 4 0),(6,ls r3),(7,vi (List.length r3:Int)),(60,vb x4)]) (L':=[(2,124,[.str [],vi 0,vi 0,.str []]),(4,124,bU o2.2)]) (by cases hx4;rfl) (by cases hx4;rfl) (To.ah (cn h (fun h=>?_) (fun h=>?_))))
 ·refine Wp.seq (rg [2,3] [2] [(2,.own 2 0),(3,vi 3)] [(2,124,[.str [],vi 0,vi 0,.str []])] (To.ah (Wp.ret (To.aA ?_))))
  cases h
  exact To.done hΓ (by kernel_rfl)
 ·refine Wp.skip (To.ah (Wp.seq ?_))
  obtain⟨hc11,h⟩:=ax h
  obtain⟨r5,hr5,h⟩:=au h
  refine rr [] [(5,.tup [vi r5.1,vi r5.2])] [] [2,4,6,7,8,9] [2,4] [(2,.own 2 0),(4,.own 4 0),(6,ls r3),(7,vi (List.length r3:Int)),(8,vi r5.1),(9,vi r5.2)] [(2,124,[.str [],vi 0,vi 0,.str []]),(4,124,bU o2.2)] [_,_] (ai.cons hc11 (ai.cons (c1 (kV n ((r3)[Int.toNat (IntKind.wrap .i64 ((List.length r3:Int)-1))]?.getD []) 65535 _ hr5)) ai.nil)) (To.ah (Wp.seq (rg [2,4,6,7,9] [2,4] [(2,.own 2 0),(4,.own 4 0),(6,ls r3),(7,vi (List.length r3:Int)),(9,vi r5.2)] [(2,124,[.str [],vi 0,vi 0,.str []]),(4,124,[.str o2.2.bD,vi o2.2.dm,vi r5.1,.str o2.2.dc])] (To.ah (Wp.seq (Wp.seq ?_))))))
  obtain⟨hc10,h⟩:=ax h
  obtain⟨x6,hx6,h⟩:=aS h
  refine r0 [2,4,6,7,9,85] [2,4] [(2,.own 2 0),(4,.own 4 0),(6,ls r3),(7,vi (List.length r3:Int)),(9,vi r5.2),(85,vb (bif (decide ((List.length r3:Int)>1)) then(bif ((List.length r3:Int)==2) then true else(decide ((List.length ((r3)[Int.toNat 1]?.getD []):Int)>0))) else false))] [(2,124,[.str [],vi 0,vi 0,.str []]),(4,124,[.str o2.2.bD,vi o2.2.dm,vi r5.1,.str o2.2.dc])] (ai.cons hc10 ai.nil) (To.eq (K':=[(2,.own 2 0),(4,.own 4 0),(6,ls r3),(7,vi (List.length r3:Int)),(9,vi r5.2),(85,vb x6)]) (L':=[(2,124,[.str [],vi 0,vi 0,.str []]),(4,124,[.str o2.2.bD,vi o2.2.dm,vi r5.1,.str o2.2.dc])]) (by cases hx6;rfl) (by cases hx6;rfl) (To.ah ?_))
  obtain⟨o7,ho7,h⟩:=au h
  refine kw [2,4,6,7,9,85] [2,4] [(2,.own 2 0),(4,.own 4 0),(6,ls r3),(7,vi (List.length r3:Int)),(9,vi r5.2),(85,vb x6)] [(2,124,[.str [],vi 0,vi 0,.str []]),(4,124,[.str o2.2.bD,vi o2.2.dm,vi r5.1,.str o2.2.dc])] (Db n r3 (List.length r3:Int) r5.2 x6 Ub (aH.mk o2.2.bD o2.2.dm r5.1 o2.2.dc) o7 ho7 ?_)
  rcases o7 with o7|o7
  ·replace h:=cv h
   refine To.ah (Wp.seq (Wp.seq (rg [2,4,6,9,105] [2,4] [(2,.own 2 0),(4,.own 4 0),(6,ls r3),(9,vi r5.2),(105,vb ((List.length r3:Int)==3))] [(2,124,bU o7.1),(4,124,bU o7.2)] (To.ah ?_))))
   obtain⟨o8,ho8,h⟩:=au h
   refine kw [2,4,6,9,105] [2,4] [(2,.own 2 0),(4,.own 4 0),(6,ls r3),(9,vi r5.2),(105,vb ((List.length r3:Int)==3))] [(2,124,bU o7.1),(4,124,bU o7.2)] (BX n r3 r5.2 ((List.length r3:Int)==3) o7.1 o7.2 o8 ho8 (To.ah (Wp.seq (Wp.seq ?_))))
   obtain⟨r9,hr9,h⟩:=au h
   refine rr [] [(4,vb r9)] [] [2,4,116] [2,4] [(2,.own 2 0),(4,.own 4 0),(116,vb (bif (r5.2 != 0) then true else(!r9)))] [(2,124,bU o7.1),(4,124,bU o8)] [(((r5.2 != 0)==false)=true->CX Tryz.prog 130 [.agg (bU o8)] (vb r9))] (ai.cons (fun hg=>cx (xU n o8 _ (jB hg hr9))) ai.nil) (To.ah (cn h (fun h=>?_) (fun h=>?_)))
   ·refine Wp.seq (rg [2,3] [2] [(2,.own 2 0),(3,vi 3)] [(2,124,[.str [],vi 0,vi 0,.str []])] (To.ah (Wp.ret (To.aA ?_))))
    cases h
    exact To.done hΓ (by kernel_rfl)
   ·refine Wp.skip (To.ah (Wp.seq (rg [2,3] [2] [(2,.own 2 0),(3,vi 0)] [(2,124,bU o8)] (To.ah (Wp.ret ?_)))))
    cases h
    exact To.done hΓ (by kernel_rfl)
  ·replace h:=cy h
   refine To.aA ?_
   cases h
   exact To.done hΓ (by kernel_rfl)
def nU(n:Nat)(v3:Bs)(v10:Bool)(b1:aH):Option (Bs) :=
 if v10=true then(if(decide (((List.length b1.bD+List.length ([58]:Bs):Nat):Int)<=9223372036854775807))=true then(some (b1.bD++[58])) else none)
 else some v3
theorem EF(n:Nat)(v3:Bs)(v10:Bool)(b1:aH)(o:Bs)(h:nU n v3 v10 b1=some o)(hQ:To 40 F0 w0 [(1,.own 1 0),(3,.str o)] [(1,124,bU b1)] .normal Q):Wp Tryz.prog 40 F0 w0 [(1,.own 1 0),(3,.str v3),(10,vb v10)] [(1,124,bU b1)] (cB (cA (cB (cB (cB (cF Tryz.f121)))))) Q:=by
 unfold nU at h
 refine cn h (fun h=>?_) (fun h=>?_)
 ·obtain⟨hc2,h⟩:=ax h
  refine r0 [1,3] [1] [(1,.own 1 0),(3,.str (b1.bD++[58]))] [(1,124,bU b1)] (ai.cons hc2 ai.nil) (kt [1,3] [1] [(1,.own 1 0),(3,.str (b1.bD++[58]))] [(1,124,bU b1)] ?_)
  cases h
  exact hQ
 ·refine Wp.skip (kt [1,3] [1] [(1,.own 1 0),(3,.str v3)] [(1,124,bU b1)] ?_)
  cases h
  exact hQ
def nR(n:Nat)(v3:Bs)(v16:Bool)(b1:aH):Option (Bs) :=
 if v16=true then((ft n b1.dm).bind fun r3 =>
 if(decide (((List.length v3+List.length r3:Nat):Int)<=9223372036854775807))=true then(if(decide (((List.length (v3++r3)+List.length ([58]:Bs):Nat):Int)<=9223372036854775807))=true then(some ((v3++r3)++[58])) else none) else none)
 else(if(decide ((List.length b1.bD:Int)>0))=true then(if(decide (((List.length v3+List.length ([58]:Bs):Nat):Int)<=9223372036854775807))=true then(some (v3++[58])) else none)
 else some v3)
abbrev OI(x0:aH):=(decide ((List.length x0.bD:Int)>0))
theorem Et(n:Nat)(v3:Bs)(v16:Bool)(b1:aH)(o:Bs)(h:nR n v3 v16 b1=some o)(hQ:To 40 F0 w0 [(1,.own 1 0),(3,.str o)] [(1,124,bU b1)] .normal Q):Wp Tryz.prog 40 F0 w0 [(1,.own 1 0),(3,.str v3),(16,vb v16)] [(1,124,bU b1)] (cB (cA (cB (cB (cB (cB (cF Tryz.f121))))))) Q:=by
 unfold nR at h
 refine cn h (fun h=>?_) (fun h=>?_)
 ·obtain⟨r3,hr3,h⟩:=au h
  obtain⟨hc4,h⟩:=ax h
  obtain⟨hc5,h⟩:=ax h
  refine rr [] [(3,.str r3)] [] [1,3] [1] [(1,.own 1 0),(3,.str ((v3++r3)++[58]))] [(1,124,bU b1)] [_,_,_] (ai.cons (c1 (og n b1.dm _ hr3)) (ai.cons hc4 (ai.cons hc5 ai.nil))) (kt [1,3] [1] [(1,.own 1 0),(3,.str ((v3++r3)++[58]))] [(1,124,bU b1)] ?_)
  cases h
  exact hQ
 ·refine Wp.seq (rg [1,3,26] [1] [(1,.own 1 0),(3,.str v3),(26,vb (OI b1))] [(1,124,bU b1)] (To.ah (cn h (fun h=>?_) (fun h=>?_))))
  ·obtain⟨hc6,h⟩:=ax h
   refine r0 [1,3] [1] [(1,.own 1 0),(3,.str (v3++[58]))] [(1,124,bU b1)] (ai.cons hc6 ai.nil) (kt [1,3] [1] [(1,.own 1 0),(3,.str (v3++[58]))] [(1,124,bU b1)] ?_)
   cases h
   exact hQ
  ·refine Wp.skip (kt [1,3] [1] [(1,.own 1 0),(3,.str v3)] [(1,124,bU b1)] ?_)
   cases h
   exact hQ
def nS(n:Nat)(v3:Bs)(v36:Bool):Option (Bs) :=
 if v36=true then(if(decide (((List.length v3+List.length (qT:Bs):Nat):Int)<=9223372036854775807))=true then(some (v3++qT)) else none)
 else some v3
theorem Ez(n:Nat)(v3:Bs)(v36:Bool)(o:Bs)(h:nS n v3 v36=some o)(hQ:To 40 F0 w0 [(3,.str o)] [] .normal Q):Wp Tryz.prog 40 F0 w0 [(3,.str v3),(36,vb v36)] [] (cB (cA (cB (cB (cB (cB (cB (cB (cF Tryz.f121))))))))) Q:=by
 unfold nS at h
 refine cn h (fun h=>?_) (fun h=>?_)
 ·obtain⟨hc5,h⟩:=ax h
  refine r0 [3] [] [(3,.str (v3++qT))] [] (ai.cons hc5 ai.nil) (kt [3] [] [(3,.str (v3++qT))] [] ?_)
  cases h
  exact hQ
 ·refine Wp.skip (kt [3] [] [(3,.str v3)] [] ?_)
  cases h
  exact hQ
def ql(n:Nat)(a0:aH):Option (Bs) :=
 (kP n a0).bind fun r1 =>
 if(!r1)=true then(some [])
 else((nU n [] (decide ((List.length a0.bD:Int)>0)) a0).bind fun o2 =>
 (nR n o2 (decide (a0.dm>0)) a0).bind fun o3 =>
 (ft n a0.jl).bind fun r4 =>
 if(decide (((List.length o3+List.length r4:Nat):Int)<=9223372036854775807))=true then((nS n (o3++r4) (a0.dc==nH)).bind fun o5 =>
 some o5) else none)
theorem zd(n:Nat)(a0:aH)(r:Bs)(h:ql n a0=some r):aJ Tryz.prog 121 [.agg (bU a0)] (.str r):=by
 unfold ql at h
 refine xo Tryz.f121 rfl fun F0 w0 _=>?_
 refine Wp.seq (rg [1] [1] [(1,.own 1 0)] [(1,124,bU a0)] (To.ah (Wp.seq (Wp.seq ?_))))
 obtain⟨r1,hr1,h⟩:=au h
 refine rc [] 1 [1,6] [1] [(1,.own 1 0),(6,vb (!r1))] [(1,124,bU a0)] (xU n a0 _ hr1) (To.ah (cn h (fun h=>?_) (fun h=>?_)))
 ·refine Wp.seq (rg [2] [] [(2,.str [])] [] (To.ah (Wp.ret (To.aA ?_))))
  cases h
  exact To.done hΓ (by kernel_rfl)
 ·refine Wp.skip (To.ah (Wp.seq (rg [1,3] [1] [(1,.own 1 0),(3,.str [])] [(1,124,bU a0)] (To.ah (Wp.seq (Wp.seq (rg [1,3,10] [1] [(1,.own 1 0),(3,.str []),(10,vb (OI a0))] [(1,124,bU a0)] (To.ah ?_))))))))
  obtain⟨o2,ho2,h⟩:=au h
  refine kw [1,3,10] [1] [(1,.own 1 0),(3,.str []),(10,vb (OI a0))] [(1,124,bU a0)] (EF n [] (OI a0) a0 o2 ho2 (To.ah (Wp.seq (Wp.seq (rg [1,3,16] [1] [(1,.own 1 0),(3,.str o2),(16,vb (decide (a0.dm>0)))] [(1,124,bU a0)] (To.ah ?_))))))
  obtain⟨o3,ho3,h⟩:=au h
  refine kw [1,3,16] [1] [(1,.own 1 0),(3,.str o2),(16,vb (decide (a0.dm>0)))] [(1,124,bU a0)] (Et n o2 (decide (a0.dm>0)) a0 o3 ho3 (To.ah (Wp.seq ?_)))
  obtain⟨r4,hr4,h⟩:=au h
  obtain⟨hc6,h⟩:=ax h
  refine rr [] [(3,.str r4)] [] [1,3] [1] [(1,.own 1 0),(3,.str (o3++r4))] [(1,124,bU a0)] [_,_] (ai.cons (c1 (og n a0.jl _ hr4)) (ai.cons hc6 ai.nil)) (To.ah (Wp.seq (Wp.seq (rg [3,36] [] [(3,.str (o3++r4)),(36,vb (a0.dc==nH))] [] (To.ah ?_)))))
  obtain⟨o5,ho5,h⟩:=au h
  refine kw [3,36] [] [(3,.str (o3++r4)),(36,vb (a0.dc==nH))] [] (Ez n (o3++r4) (a0.dc==nH) o5 ho5 (To.ah (Wp.seq (rg [2] [] [(2,.str o5)] [] (To.ah (Wp.ret ?_))))))
  cases h
  exact To.done hΓ (by kernel_rfl)
def jL(n:Nat)(v1:Ls)(b2:af):Nat->Int->Option (Sum (Unit) (Bool))
 |0,_=>none
 |k+1,v5=>if(decide (v5<(List.length b2.ak:Int)))=true then(if(decide (0<=v5/\v5<(List.length b2.ak:Int)))=true then((mo n v1 ((b2.ak)[Int.toNat v5]?.getD [])).bind fun r1 =>
 if(!r1)=true then(some (.inr false))
 else(jL n v1 b2 k (IntKind.wrap .i64 (v5+1)))) else none)
 else(some (.inl ()))
theorem DT(n:Nat)(v1:Ls)(b2:af)(k:Nat):∀(v5:Int)(o:Sum (Unit) (Bool)),jL n v1 b2 k v5=some o->(Sum.elim (fun s=>To 24 F0 w0 [] [] (.exit 0) Q) (fun s=>To 24 F0 w0 [(4,vb s)] [] .ret Q)) o->WL Tryz.prog 24 F0 w0 [(1,ls v1),(2,.own 2 0),(5,vi v5)] [(2,25,qc6 b2)] (cI (cI (cB (cA (cB (cB (cF Tryz.f100))))))) Q:=by
 induction k with
 |zero=>intro v5 o h;cases h
 |succ k ih =>
  intro v5 o h hQ
  rw[jL] at h
  refine WL.round (Wp.seq (Wp.seq (rg [1,2,5,13] [2] [(1,ls v1),(2,.own 2 0),(5,vi v5),(13,vb (yF v5 b2))] [(2,25,qc6 b2)] (To.ah (cn h (fun h=>?_) (fun h=>?_))))))
  ·refine Wp.skip (To.ah (Wp.seq (Wp.block (Wp.seq ?_))))
   obtain⟨hc2,h⟩:=ax h
   obtain⟨r1,hr1,h⟩:=au h
   refine rr [] [(6,vb r1)] [] [1,2,5,23] [2] [(1,ls v1),(2,.own 2 0),(5,vi v5),(23,vb (!r1))] [(2,25,qc6 b2)] [_,_] (ai.cons hc2 (ai.cons (c1 (uG n v1 (df b2 v5) _ hr1)) ai.nil)) (To.ah (cn h (fun h=>?_) (fun h=>?_)))
   ·refine Wp.seq (rg [4] [] [(4,vb false)] [] (To.ah (Wp.ret (To.aP (To.aA (To.aA ?_))))))
    cases h
    exact hQ
   ·refine Wp.skip (To.aR (To.ah (rg [1,2,5] [2] [(1,ls v1),(2,.own 2 0),(ex3 v5)] [(2,25,qc6 b2)] (kt [1,2,5] [2] [(1,ls v1),(2,.own 2 0),(ex3 v5)] [(2,25,qc6 b2)] (To.again ?_)))))
    exact ih (IntKind.wrap .i64 (v5+1)) _ h hQ
  ·refine Wp.exit (To.aK (To.aK (kt [] [] [] [] ?_)))
   cases h
   exact hQ
def jI(n:Nat)(a0:af)(a1:Ls):Option (Bool) :=
 if(a0.av != 3)=true then some false
 else((jL n a1 a0 n 0).bind fun o1 =>
 (Sum.elim (fun o1=>some true) (fun o1=>some o1)) o1)
theorem oa(n:Nat)(a0:af)(a1:Ls)(r:Bool)(h:jI n a0 a1=some r):aJ Tryz.prog 100 [.agg (qc6 a0),ls a1] (vb r):=by
 unfold jI at h
 refine xo Tryz.f100 rfl fun F0 w0 _=>?_
 refine Wp.seq (rg [1,2] [2] [(1,ls a1),(2,.own 2 0)] [(2,25,qc6 a0)] (To.ah (Wp.seq (Wp.seq (rg [1,2,8] [2] [(1,ls a1),(2,.own 2 0),(8,vb (a0.av != 3))] [(2,25,qc6 a0)] (To.ah (cn h (fun h=>?_) (fun h=>?_))))))))
 ·refine Wp.seq (rg [4] [] [(4,vb false)] [] (To.ah (Wp.ret (To.aA ?_))))
  cases h
  exact To.done hΓ (by kernel_rfl)
 ·refine Wp.skip (To.ah (Wp.seq (Wp.seq (rg [1,2,5] [2] [(1,ls a1),(2,.own 2 0),(5,vi 0)] [(2,25,qc6 a0)] (To.ah (Wp.block ?_))))))
  obtain⟨o1,ho1,h⟩:=au h
  refine kw [1,2,5] [2] [(1,ls a1),(2,.own 2 0),(5,vi 0)] [(2,25,qc6 a0)] (Wp.bE (DT n a1 a0 n 0 o1 ho1 ?_))
  rcases o1 with o1|o1
  ·replace h:=cv h
   refine To.aY (To.ah (Wp.seq (rg [4] [] [(4,vb true)] [] (To.ah (Wp.ret ?_)))))
   cases h
   exact To.done hΓ (by kernel_rfl)
  ·replace h:=cy h
   refine To.aP (To.aA ?_)
   cases h
   exact To.done hΓ (by kernel_rfl)
def eX(n:Nat)(a0:af)(a1:Bs)(a2:Bs):Option (Bs×Bool) :=
 (gZ n a0 a1).bind fun r1 =>
 if(!r1.2)=true then(some (a2,true))
 else(some (r1.1.aC,(r1.1.av==1)))
theorem fH(n:Nat)(a0:af)(a1:Bs)(a2:Bs)(r:Bs×Bool)(h:eX n a0 a1 a2=some r):aJ Tryz.prog 101 [.agg (qc6 a0),.str a1,.str a2] (.tup [.str r.1,vb r.2]):=by
 unfold eX at h
 refine xo Tryz.f101 rfl fun F0 w0 _=>?_
 refine Wp.seq (rg [1,2,3] [3] [(1,.str a1),(2,.str a2),(3,.own 3 0)] [(3,25,qc6 a0)] (To.ah (Wp.seq ?_)))
 obtain⟨r1,hr1,h⟩:=au h
 refine rc [] 2 [2,8,9] [8] [(2,.str a2),(8,.own 8 0),(9,vb r1.2)] [(8,25,qc6 r1.1)] (iO n a0 a1 _ hr1) (To.ah (Wp.seq (Wp.seq (rg [2,8,17] [8] [(2,.str a2),(8,.own 8 0),(17,vb (!r1.2))] [(8,25,qc6 r1.1)] (To.ah (cn h (fun h=>?_) (fun h=>?_)))))))
 ·refine Wp.seq (rg [6,7] [] [(6,.str a2),(7,vb true)] [] (To.ah (Wp.ret (To.aA ?_))))
  cases h
  exact To.done hΓ (by kernel_rfl)
 ·refine Wp.skip (To.ah (Wp.seq (Wp.bI hm hΓ [] [6,7] [] (K':=[(6,.str r1.1.aC),(7,vb (r1.1.av==1))]) (L':=[]) (ob:=[]) (by kernel_rfl) ai.nil (To.ah (Wp.ret ?_)))))
  cases h
  exact To.done hΓ (by kernel_rfl)
def lF(n:Nat)(a0:af)(a1:Bs):Option (Int×Bool) :=
 (gZ n a0 a1).bind fun r1 =>
 if(!r1.2)=true then(some (0,true))
 else((eX n a0 a1 []).bind fun r2 =>
 (fL n r2.1 65536).bind fun r3 =>
 some (r3.1,(bif (bif r2.2 then(r3.2==0) else false) then(decide (r3.1>0)) else false)))
theorem sO(n:Nat)(a0:af)(a1:Bs)(r:Int×Bool)(h:lF n a0 a1=some r):aJ Tryz.prog 105 [.agg (qc6 a0),.str a1] (.tup [vi r.1,vb r.2]):=by
 unfold lF at h
 refine xo Tryz.f105 rfl fun F0 w0 _=>?_
 refine Wp.seq (rg [1,2] [2] [(1,.str a1),(2,.own 2 0)] [(2,25,qc6 a0)] (To.ah (Wp.seq ?_)))
 obtain⟨r1,hr1,h⟩:=au h
 refine rc [] 2 [1,2,7] [2] [(1,.str a1),(2,.own 2 0),(7,vb r1.2)] [(2,25,qc6 a0)] (iO n a0 a1 _ hr1) (To.ah (Wp.seq (Wp.seq (rg [1,2,19] [2] [(1,.str a1),(2,.own 2 0),(19,vb (!r1.2))] [(2,25,qc6 a0)] (To.ah (cn h (fun h=>?_) (fun h=>?_)))))))
 ·refine Wp.seq (rg [4,5] [] [(4,vi 0),(5,vb true)] [] (To.ah (Wp.ret (To.aA ?_))))
  cases h
  exact To.done hΓ (by kernel_rfl)
 ·refine Wp.skip (To.ah (Wp.seq ?_))
  obtain⟨r2,hr2,h⟩:=au h
  refine rc [] 2 [8,9] [] [(8,.str r2.1),(9,vb r2.2)] [] (fH n a0 a1 [] _ hr2) (To.ah (Wp.seq ?_))
  obtain⟨r3,hr3,h⟩:=au h
  refine rc [] 1 [9,10,11] [] [(9,vb r2.2),(10,vi r3.1),(11,vi r3.2)] [] (kV n r2.1 65536 _ hr3) (To.ah (Wp.seq (rg [4,5] [] [(4,vi r3.1),(5,vb (bif (bif r2.2 then(r3.2==0) else false) then(decide (r3.1>0)) else false))] [] (To.ah (Wp.ret ?_)))))
  cases h
  exact To.done hΓ (by kernel_rfl)
def lN(n:Nat)(a0:af):Option (Bs) :=
 if(a0.av==1)=true then((qA n a0.aC).bind fun r1 =>
 if(r1.2 != 0)=true then(some [])
 else((ql n r1.1).bind fun r2 =>
 some r2))
 else((jI n a0 ([oD,uA,uL,uH])).bind fun r3 =>
 if(!r3)=true then(some [])
 else((lF n a0 oD).bind fun r4 =>
 (lF n a0 uA).bind fun r5 =>
 (eX n a0 uL []).bind fun r6 =>
 (eX n a0 uH lC).bind fun r7 =>
 if(bif (bif (bif (!r4.2) then true else(!r5.2)) then true else(!r6.2)) then true else(!r7.2))=true then(some [])
 else((ql n (aH.mk r6.1 r5.1 r4.1 r7.1)).bind fun r8 =>
 some r8)))
theorem vT(n:Nat)(a0:af)(r:Bs)(h:lN n a0=some r):aJ Tryz.prog 96 [.agg (qc6 a0)] (.str r):=by
 unfold lN at h
 refine xo Tryz.f96 rfl fun F0 w0 _=>?_
 refine Wp.seq (rg [1] [1] [(1,.own 1 0)] [(1,25,qc6 a0)] (To.ah (Wp.seq (Wp.seq (rg [1,15] [1] [(1,.own 1 0),(15,vb (a0.av==1))] [(1,25,qc6 a0)] (To.ah (cn h (fun h=>?_) (fun h=>?_))))))))
 ·refine Wp.seq ?_
  obtain⟨r1,hr1,h⟩:=au h
  refine rc [] 2 [3,4] [3] [(3,.own 3 0),(4,vi r1.2)] [(3,124,bU r1.1)] (G3 n a0.aC _ hr1) (To.ah (Wp.seq (Wp.seq (rg [3,23] [3] [(3,.own 3 0),(23,vb (r1.2 != 0))] [(3,124,bU r1.1)] (To.ah (cn h (fun h=>?_) (fun h=>?_)))))))
  ·refine Wp.seq (rg [2] [] [(2,.str [])] [] (To.ah (Wp.ret (To.aA (To.aA ?_)))))
   cases h
   exact To.done hΓ (by kernel_rfl)
  ·refine Wp.skip (To.ah (Wp.seq ?_))
   obtain⟨r2,hr2,h⟩:=au h
   refine rc [] 1 [2] [] [(2,.str r2)] [] (zd n r1.1 _ hr2) (To.ah (Wp.ret (To.aA ?_)))
   cases h
   exact To.done hΓ (by kernel_rfl)
 ·refine Wp.skip (To.ah (Wp.seq (Wp.seq ?_)))
  obtain⟨r3,hr3,h⟩:=au h
  refine rr [(2,[27])] [(1,ls ([oD,uA,uL,uH])),(2,vb r3)] [] [1,29] [1] [(1,.own 1 0),(29,vb (!r3))] [(1,25,qc6 a0)] [(ck 1 [.str oD,.str uA,.str uL,.str uH] 4 (ls ([oD,uA,uL,uH]))/\aM (ls ([oD,uA,uL,uH]))),_] (ai.cons (du (by kernel_rfl) rfl (by kernel_rfl) (aI _)) (ai.cons (c1 (oa n a0 ([oD,uA,uL,uH]) _ hr3)) ai.nil)) (To.ah (cn h (fun h=>?_) (fun h=>?_)))
  ·refine Wp.seq (rg [2] [] [(2,.str [])] [] (To.ah (Wp.ret (To.aA ?_))))
   cases h
   exact To.done hΓ (by kernel_rfl)
  ·refine Wp.skip (To.ah (Wp.seq ?_))
   obtain⟨r4,hr4,h⟩:=au h
   refine rc [] 1 [1,5,6] [1] [(1,.own 1 0),(5,vi r4.1),(6,vb r4.2)] [(1,25,qc6 a0)] (sO n a0 oD _ hr4) (To.ah (Wp.seq ?_))
   obtain⟨r5,hr5,h⟩:=au h
   refine rc [] 1 [1,5,6,7,8] [1] [(1,.own 1 0),(5,vi r4.1),(6,vb r4.2),(7,vi r5.1),(8,vb r5.2)] [(1,25,qc6 a0)] (sO n a0 uA _ hr5) (To.ah (Wp.seq ?_))
   obtain⟨r6,hr6,h⟩:=au h
   refine rc [] 1 [1,5,6,7,8,9,10] [1] [(1,.own 1 0),(5,vi r4.1),(6,vb r4.2),(7,vi r5.1),(8,vb r5.2),(9,.str r6.1),(10,vb r6.2)] [(1,25,qc6 a0)] (fH n a0 uL [] _ hr6) (To.ah (Wp.seq ?_))
   obtain⟨r7,hr7,h⟩:=au h
   refine rc [] 1 [5,6,7,8,9,10,11,12] [] [(5,vi r4.1),(6,vb r4.2),(7,vi r5.1),(8,vb r5.2),(9,.str r6.1),(10,vb r6.2),(11,.str r7.1),(12,vb r7.2)] [] (fH n a0 uH lC _ hr7) (To.ah (Wp.seq (Wp.seq (rg [5,7,9,11,63] [] [(5,vi r4.1),(7,vi r5.1),(9,.str r6.1),(11,.str r7.1),(63,vb (bif (bif (bif (!r4.2) then true else(!r5.2)) then true else(!r6.2)) then true else(!r7.2)))] [] (To.ah (cn h (fun h=>?_) (fun h=>?_)))))))
   ·refine Wp.seq (rg [2] [] [(2,.str [])] [] (To.ah (Wp.ret (To.aA ?_))))
    cases h
    exact To.done hΓ (by kernel_rfl)
   ·refine Wp.skip (To.ah (Wp.seq ?_))
    obtain⟨r8,hr8,h⟩:=au h
    refine rc [] 5 [2] [] [(2,.str r8)] [] (zd n (aH.mk r6.1 r5.1 r4.1 r7.1) _ hr8) (To.ah (Wp.ret ?_))
    cases h
    exact To.done hΓ (by kernel_rfl)
def mX(n:Nat)(v5:Int)(v6:Bs)(v27:Bool)(b1:af)(b2:af)(b4:af):Option (Bs) :=
 if v27=true then(if(decide (0<=v5/\v5<(List.length b1.aj:Int)))=true then((lN n ((b1.aj)[Int.toNat v5]?.getD (af.mk 0 [] [] []))).bind fun r1 =>
 some r1) else none)
 else(if(decide (0<=v5/\v5<(List.length b1.aj:Int)))=true then(if((!(((((b1.aj)[Int.toNat v5]?.getD (af.mk 0 [] [] [])).av)==0)==true)||decide (0<=v5/\v5<(List.length b1.ak:Int))))=true then(aQ (dA ((b1.ak)[Int.toNat v5]?.getD [])) fun r3 =>
 ((if(((((b1.aj)[Int.toNat v5]?.getD (af.mk 0 [] [] [])).av)==0)==true)=true then lN n r3 else some [])).bind fun r4 =>
 aQ ((bif ((((b1.aj)[Int.toNat v5]?.getD (af.mk 0 [] [] [])).av)==0) then(r4==((b1.ak)[Int.toNat v5]?.getD [])) else false):Bool) fun x5 =>
 if x5=true then(if(decide (0<=v5/\v5<(List.length b1.ak:Int)))=true then(some ((b1.ak)[Int.toNat v5]?.getD [])) else none)
 else some v6) else none) else none)
theorem Cm(n:Nat)(v5:Int)(v6:Bs)(v27:Bool)(b1:af)(b2:af)(b4:af)(o:Bs)(h:mX n v5 v6 v27 b1 b2 b4=some o)(hQ:To 72 F0 w0 [(1,.own 1 0),(2,.own 2 0),(4,.own 4 0),(5,vi v5),(6,.str o)] [(1,25,qc6 b1),(2,25,qc6 b2),(4,25,qc6 b4)] .normal Q):Wp Tryz.prog 72 F0 w0 [(1,.own 1 0),(2,.own 2 0),(4,.own 4 0),(5,vi v5),(6,.str v6),(27,vb v27)] [(1,25,qc6 b1),(2,25,qc6 b2),(4,25,qc6 b4)] (cB (cA (cB (cI (cA (cB (cI (cI (cB (cA (cB (cB (cB (cF Tryz.f72)))))))))))))) Q:=by
 unfold mX at h
 refine cn h (fun h=>?_) (fun h=>?_)
 ·obtain⟨hc2,h⟩:=ax h
  obtain⟨r1,hr1,h⟩:=au h
  refine rr [] [(5,.str r1)] [] [1,2,4,5,6] [1,2,4] [(1,.own 1 0),(2,.own 2 0),(4,.own 4 0),(5,vi v5),(6,.str r1)] [(1,25,qc6 b1),(2,25,qc6 b2),(4,25,qc6 b4)] [_,_] (ai.cons hc2 (ai.cons (c1 (vT n (ex5 b1 v5) _ hr1)) ai.nil)) (kt [1,2,4,5,6] [1,2,4] [(1,.own 1 0),(2,.own 2 0),(4,.own 4 0),(5,vi v5),(6,.str r1)] [(1,25,qc6 b1),(2,25,qc6 b2),(4,25,qc6 b4)] ?_)
  cases h
  exact hQ
 ·refine Wp.seq ?_
  obtain⟨hc7,h⟩:=ax h
  obtain⟨hc8,h⟩:=ax h
  obtain⟨r3,hr3,h⟩:=aS h
  obtain⟨r4,hr4,h⟩:=au h
  obtain⟨x5,hx5,h⟩:=aS h
  refine Wp.bI hm hΓ [(13,.agg (qc6 r3)),(14,.str r4)] [1,2,4,5,6,55] [1,2,4] (K':=[(1,.own 1 0),(2,.own 2 0),(4,.own 4 0),(5,vi v5),(6,.str v6),(55,vb (bif (((ex5 b1 v5).av)==0) then(r4==(df b1 v5)) else false))]) (L':=[(1,25,qc6 b1),(2,25,qc6 b2),(4,25,qc6 b4)]) (ob:=[(decide (ex6 v5 b1))=true,(!((((ex5 b1 v5).av)==0)==true)||decide (0<=v5/\v5<(List.length b1.ak:Int)))=true,(((((ex5 b1 v5).av)==0)==true)=true->CX Tryz.prog 91 [.str (df b1 v5)] (.agg (qc6 r3))),(((((ex5 b1 v5).av)==0)==true)=true->CX Tryz.prog 96 [.agg (qc6 r3)] (.str r4)),(!((((ex5 b1 v5).av)==0)==true)||decide (0<=v5/\v5<(List.length b1.ak:Int)))=true]) (by kernel_rfl) (ai.cons hc7 (ai.cons hc8 (ai.cons (fun _=>cx (dM (df b1 v5) _ hr3)) (ai.cons (fun hg=>cx (vT n r3 _ (jB hg hr4))) (ai.cons hc8 ai.nil))))) (To.eq (K':=[(1,.own 1 0),(2,.own 2 0),(4,.own 4 0),(5,vi v5),(6,.str v6),(55,vb x5)]) (L':=[(1,25,qc6 b1),(2,25,qc6 b2),(4,25,qc6 b4)]) (by cases hx5;rfl) (by cases hx5;rfl) (To.ah (cn h (fun h=>?_) (fun h=>?_))))
  ·obtain⟨hc6,h⟩:=ax h
   refine r0 [1,2,4,5,6] [1,2,4] [(1,.own 1 0),(2,.own 2 0),(4,.own 4 0),(5,vi v5),(6,.str (df b1 v5))] [(1,25,qc6 b1),(2,25,qc6 b2),(4,25,qc6 b4)] (ai.cons hc6 ai.nil) (kt [1,2,4,5,6] [1,2,4] [(1,.own 1 0),(2,.own 2 0),(4,.own 4 0),(5,vi v5),(6,.str (df b1 v5))] [(1,25,qc6 b1),(2,25,qc6 b2),(4,25,qc6 b4)] ?_)
   cases h
   exact hQ
  ·refine Wp.skip (kt [1,2,4,5,6] [1,2,4] [(1,.own 1 0),(2,.own 2 0),(4,.own 4 0),(5,vi v5),(6,.str v6)] [(1,25,qc6 b1),(2,25,qc6 b2),(4,25,qc6 b4)] ?_)
   cases h
   exact hQ
def kW(n:Nat)(v5:Int)(b1:af)(b2:af)(b4:af):Option (Sum (af×af) (Bool×af)) :=
 (mX n v5 [] (b1.av==2) b1 b2 b4).bind fun o1 =>
 if(o1==[])=true then(some (.inr (false,(af.mk 0 [] [] []))))
 else((dK n b4 o1 (af.mk 0 [] [] [])).bind fun r2 =>
 some (.inl (b2,r2)))
theorem CP(n:Nat)(v5:Int)(b1:af)(b2:af)(b4:af)(o:Sum (af×af) (Bool×af))(h:kW n v5 b1 b2 b4=some o)(hQ:(Sum.elim (fun s=>To 72 F0 w0 [(1,.own 1 0),(2,.own 2 0),(4,.own 4 0),(5,vi v5)] [(1,25,qc6 b1),(2,25,qc6 s.1),(4,25,qc6 s.2)] .normal Q) (fun s=>To 72 F0 w0 [(2,.own 2 0),(3,vb s.1)] [(2,25,qc6 s.2)] .ret Q)) o):Wp Tryz.prog 72 F0 w0 [(1,.own 1 0),(2,.own 2 0),(4,.own 4 0),(5,vi v5)] [(1,25,qc6 b1),(2,25,qc6 b2),(4,25,qc6 b4)] (cA (cB (cI (cI (cB (cA (cB (cB (cB (cF Tryz.f72)))))))))) Q:=by
 unfold kW at h
 refine Wp.block (Wp.seq (rg [1,2,4,5,6] [1,2,4] [(1,.own 1 0),(2,.own 2 0),(4,.own 4 0),(5,vi v5),(6,.str [])] [(1,25,qc6 b1),(2,25,qc6 b2),(4,25,qc6 b4)] (To.ah (Wp.seq (Wp.seq (rg [1,2,4,5,6,27] [1,2,4] [(1,.own 1 0),(2,.own 2 0),(4,.own 4 0),(5,vi v5),(6,.str []),(27,vb (b1.av==2))] [(1,25,qc6 b1),(2,25,qc6 b2),(4,25,qc6 b4)] (To.ah ?_)))))))
 obtain⟨o1,ho1,h⟩:=au h
 refine kw [1,2,4,5,6,27] [1,2,4] [(1,.own 1 0),(2,.own 2 0),(4,.own 4 0),(5,vi v5),(6,.str []),(27,vb (b1.av==2))] [(1,25,qc6 b1),(2,25,qc6 b2),(4,25,qc6 b4)] (Cm n v5 [] (b1.av==2) b1 b2 b4 o1 ho1 (To.ah (Wp.seq (Wp.seq (rg [1,2,4,5,6,62] [1,2,4] [(1,.own 1 0),(2,.own 2 0),(4,.own 4 0),(5,vi v5),(6,.str o1),(62,vb (o1==[]))] [(1,25,qc6 b1),(2,25,qc6 b2),(4,25,qc6 b4)] (To.ah (cn h (fun h=>?_) (fun h=>?_))))))))
 ·refine Wp.seq (rg [2,3] [2] [(2,.own 2 0),(3,vb false)] [(2,25,[vi 0,.str [],.val (.slice none 0 0),.val (.slice none 0 0)])] (To.ah (Wp.ret (To.aA (To.aP (To.weak (K':=[(2,.own 2 0),(3,vb false)]) (L':=[(2,25,[vi 0,.str [],ls [],tn4 []])]) (.cons (.refl _) (.cons (.refl _) .nil)) (.cons (.cons (.refl _) (.cons (.refl _) (.cons (.zero _ _) (.cons (.bu _ _ _) .nil)))) .nil) ?_))))))
  cases h
  exact hQ
 ·refine Wp.skip (To.ah ?_)
  obtain⟨r2,hr2,h⟩:=au h
  refine rr [] [(3,.agg (qc6 r2))] [] [1,2,4,5] [1,2,4] [(1,.own 1 0),(2,.own 2 0),(4,.own 4 0),(5,vi v5)] [(1,25,qc6 b1),(2,25,qc6 b2),(4,25,qc6 r2)] [(true=true->CX Tryz.prog 30 [.agg (qc6 b4),.str o1,.agg [vi 0,.str [],.val (.slice none 0 0),.val (.slice none 0 0)]] (.agg (qc6 r2)))] (ai.cons (fun _=>cx (qI (.cons (.refl _) (.cons (.refl _) (.cons (.agg (.cons (.refl _) (.cons (.refl _) (.cons (.zero _ _) (.cons (.bu _ _ _) .nil))))) .nil))) (eu n b4 o1 zx3 _ hr2))) ai.nil) (To.aR ?_)
  cases h
  exact hQ
def dL(n:Nat)(b1:af):Nat->Int->af->af->Option (Sum (af×af) (Bool×af))
 |0,_,_,_=>none
 |k+1,v5,b2,b4=>if(decide (v5<(List.length b1.aj:Int)))=true then((kW n v5 b1 b2 b4).bind fun o1 =>
 (Sum.elim (fun o1=>dL n b1 k (IntKind.wrap .i64 (v5+1)) o1.1 o1.2) (fun o1=>some (.inr (o1.1,o1.2)))) o1)
 else(some (.inl (b2,b4)))
theorem C3(n:Nat)(b1:af)(k:Nat):∀(v5:Int)(b2:af)(b4:af)(o:Sum (af×af) (Bool×af)),dL n b1 k v5 b2 b4=some o->(Sum.elim (fun s=>To 72 F0 w0 [(2,.own 2 0),(4,.own 4 0)] [(2,25,qc6 s.1),(4,25,qc6 s.2)] (.exit 0) Q) (fun s=>To 72 F0 w0 [(2,.own 2 0),(3,vb s.1)] [(2,25,qc6 s.2)] .ret Q)) o->WL Tryz.prog 72 F0 w0 [(1,.own 1 0),(2,.own 2 0),(4,.own 4 0),(5,vi v5)] [(1,25,qc6 b1),(2,25,qc6 b2),(4,25,qc6 b4)] (cI (cI (cB (cA (cB (cB (cB (cF Tryz.f72)))))))) Q:=by
 induction k with
 |zero=>intro v5 b2 b4 o h;cases h
 |succ k ih =>
  intro v5 b2 b4 o h hQ
  rw[dL] at h
  refine WL.round (Wp.seq (Wp.seq (rg [1,2,4,5,22] [1,2,4] [(1,.own 1 0),(2,.own 2 0),(4,.own 4 0),(5,vi v5),(22,vb (ex8 v5 b1))] [(1,25,qc6 b1),(2,25,qc6 b2),(4,25,qc6 b4)] (To.ah (cn h (fun h=>?_) (fun h=>?_))))))
  ·refine Wp.skip (To.ah (Wp.seq ?_))
   obtain⟨o1,ho1,h⟩:=au h
   refine kw [1,2,4,5] [1,2,4] [(1,.own 1 0),(2,.own 2 0),(4,.own 4 0),(5,vi v5)] [(1,25,qc6 b1),(2,25,qc6 b2),(4,25,qc6 b4)] (CP n v5 b1 b2 b4 o1 ho1 ?_)
   rcases o1 with o1|o1
   ·replace h:=cv h
    refine To.ah (rg [1,2,4,5] [1,2,4] [(1,.own 1 0),(2,.own 2 0),(4,.own 4 0),(ex3 v5)] [(1,25,qc6 b1),(2,25,qc6 o1.1),(4,25,qc6 o1.2)] (kt [1,2,4,5] [1,2,4] [(1,.own 1 0),(2,.own 2 0),(4,.own 4 0),(ex3 v5)] [(1,25,qc6 b1),(2,25,qc6 o1.1),(4,25,qc6 o1.2)] (To.again ?_)))
    exact ih (IntKind.wrap .i64 (v5+1)) o1.1 o1.2 _ h hQ
   ·replace h:=cy h
    refine To.aA (To.aA (kt [2,3] [2] [(2,.own 2 0),(3,vb o1.1)] [(2,25,qc6 o1.2)] ?_))
    cases h
    exact hQ
  ·refine Wp.exit (To.aK (To.aK (kt [2,4] [2,4] [(2,.own 2 0),(4,.own 4 0)] [(2,25,qc6 b2),(4,25,qc6 b4)] ?_)))
   cases h
   exact hQ
def qM(n:Nat)(a0:af):Option (af×Bool) :=
 if(bif (decide ((List.length a0.aj:Int)>32)) then true else(decide (a0.av<2)))=true then(some ((af.mk 0 [] [] []),false))
 else((dL n a0 n 0 (af.mk 0 [] [] []) (af.mk 0 [] [] [])).bind fun o1 =>
 (Sum.elim (fun o1=>(eO n o1.2 true).bind fun r2 =>
 some (r2.1,r2.2)) (fun o1=>some (o1.2,o1.1))) o1)
abbrev TW(x0:af):=(bif (decide ((List.length x0.aj:Int)>32)) then true else(decide (x0.av<2)))
theorem GU(n:Nat)(a0:af)(r:af×Bool)(h:qM n a0=some r):aJ Tryz.prog 72 [.agg (qc6 a0)] (.tup [.agg (qc6 r.1),vb r.2]):=by
 unfold qM at h
 refine xo Tryz.f72 rfl fun F0 w0 _=>?_
 refine Wp.seq (rg [1,2] [1,2] [(1,.own 1 0),(2,.own 2 0)] [(1,25,qc6 a0),(2,25,[vi 0,.str [],.val (.slice none 0 0),.val (.slice none 0 0)])] (To.ah (Wp.seq (Wp.seq (rg [1,2,15] [1,2] [(1,.own 1 0),(2,.own 2 0),(15,vb (TW a0))] [(1,25,qc6 a0),(2,25,[vi 0,.str [],.val (.slice none 0 0),.val (.slice none 0 0)])] (To.ah (cn h (fun h=>?_) (fun h=>?_))))))))
 ·refine Wp.seq (rg [2,3] [2] [(2,.own 2 0),(3,vb false)] [(2,25,[vi 0,.str [],.val (.slice none 0 0),.val (.slice none 0 0)])] (To.ah (Wp.ret (To.aA (To.weak (K':=[(2,.own 2 0),(3,vb false)]) (L':=[(2,25,[vi 0,.str [],ls [],tn4 []])]) (.cons (.refl _) (.cons (.refl _) .nil)) (.cons (.cons (.refl _) (.cons (.refl _) (.cons (.zero _ _) (.cons (.bu _ _ _) .nil)))) .nil) ?_)))))
  cases h
  exact To.done hΓ (by kernel_rfl)
 ·refine Wp.skip (To.ah (Wp.seq (rg [1,2,4] [1,2,4] [(1,.own 1 0),(2,.own 2 0),(4,.own 4 0)] [(1,25,qc6 a0),(2,25,[vi 0,.str [],.val (.slice none 0 0),.val (.slice none 0 0)]),(4,25,[vi 0,.str [],.val (.slice none 0 0),.val (.slice none 0 0)])] (To.ah (Wp.seq (Wp.seq (rg [1,2,4,5] [1,2,4] [(1,.own 1 0),(2,.own 2 0),(4,.own 4 0),(5,vi 0)] [(1,25,qc6 a0),(2,25,[vi 0,.str [],.val (.slice none 0 0),.val (.slice none 0 0)]),(4,25,[vi 0,.str [],.val (.slice none 0 0),.val (.slice none 0 0)])] (To.ah (Wp.block ?_)))))))))
  obtain⟨o1,ho1,h⟩:=au h
  refine kw [1,2,4,5] [1,2,4] [(1,.own 1 0),(2,.own 2 0),(4,.own 4 0),(5,vi 0)] [(1,25,qc6 a0),(2,25,[vi 0,.str [],.val (.slice none 0 0),.val (.slice none 0 0)]),(4,25,[vi 0,.str [],.val (.slice none 0 0),.val (.slice none 0 0)])] (Wp.weak (K':=[(1,.own 1 0),(2,.own 2 0),(4,.own 4 0),(5,vi 0)]) (L':=[(1,25,qc6 a0),(2,25,[vi 0,.str [],ls [],tn4 []]),(4,25,[vi 0,.str [],ls [],tn4 []])]) (.cons (.refl _) (.cons (.refl _) (.cons (.refl _) (.cons (.refl _) .nil)))) (.cons (.cons (.refl _) (.cons (.refl _) (.cons (.refl _) (.cons (.refl _) .nil)))) (.cons (.cons (.refl _) (.cons (.refl _) (.cons (.zero _ _) (.cons (.bu _ _ _) .nil)))) (.cons (.cons (.refl _) (.cons (.refl _) (.cons (.zero _ _) (.cons (.bu _ _ _) .nil)))) .nil))) (Wp.bE (C3 n a0 n 0 zx3 zx3 o1 ho1 ?_)))
  rcases o1 with o1|o1
  ·replace h:=cv h
   refine To.aY (To.ah (Wp.seq ?_))
   obtain⟨r2,hr2,h⟩:=au h
   refine rc [] 1 [2,3] [2] [(2,.own 2 0),(3,vb r2.2)] [(2,25,qc6 r2.1)] (jK n o1.2 true _ hr2) (To.ah (Wp.ret ?_))
   cases h
   exact To.done hΓ (by kernel_rfl)
  ·replace h:=cy h
   refine To.aP (To.aA ?_)
   cases h
   exact To.done hΓ (by kernel_rfl)
structure aL where
 aZ:Bs
 cY:Bs
 gk:Bool
def jP(n:Nat)(v0:Bs):Nat->Int->Option (Sum (Unit) (Bool))
 |0,_=>none
 |k+1,v3=>if(decide (v3<(List.length v0:Int)))=true then(if(decide (0<=v3/\v3<(List.length v0:Int)))=true then(if((!(((((v0)[Int.toNat v3]?.getD 0).toNat:Int) != 47)==true)||decide (0<=v3/\v3<(List.length v0:Int))))=true then(aQ ((bif ((((v0)[Int.toNat v3]?.getD 0).toNat:Int) != 47) then((bH (((v0)[Int.toNat v3]?.getD 0).toNat:Int))==0) else false):Bool) fun x1 =>
 if x1=true then(some (.inr false))
 else(jP n v0 k (IntKind.wrap .i64 (v3+1)))) else none) else none)
 else(some (.inl ()))
theorem EV(n:Nat)(v0:Bs)(k:Nat):∀(v3:Int)(o:Sum (Unit) (Bool)),jP n v0 k v3=some o->(Sum.elim (fun s=>To 29 F0 w0 [] [] (.exit 0) Q) (fun s=>To 29 F0 w0 [(2,vb s)] [] .ret Q)) o->WL Tryz.prog 29 F0 w0 [(0,.str v0),(3,vi v3)] [] (cI (cI (cB (cA (cB (cB (cF Tryz.f132))))))) Q:=by
 induction k with
 |zero=>intro v3 o h;cases h
 |succ k ih =>
  intro v3 o h hQ
  rw[jP] at h
  refine WL.round (Wp.seq (Wp.seq (rg [0,3,15] [] [(0,.str v0),(3,vi v3),(15,vb (mj v3 v0))] [] (To.ah (cn h (fun h=>?_) (fun h=>?_))))))
  ·refine Wp.skip (To.ah (Wp.seq (Wp.block (Wp.seq ?_))))
   obtain⟨hc2,h⟩:=ax h
   obtain⟨hc3,h⟩:=ax h
   obtain⟨x1,hx1,h⟩:=aS h
   refine rr [] [(8,vi (bH (bK v0 v3)))] [] [0,3,28] [] [(0,.str v0),(3,vi v3),(28,vb (bif ((bK v0 v3) != 47) then((bH (bK v0 v3))==0) else false))] [] [_,_,((((bK v0 v3) != 47)==true)=true->CX Tryz.prog 47 [.val (.int .u8 (bK v0 v3))] (vi (bH (bK v0 v3))))] (ai.cons hc2 (ai.cons hc3 (ai.cons (fun _=>cx (qX (bK v0 v3) _ rfl)) ai.nil))) (To.eq (K':=[(0,.str v0),(3,vi v3),(28,vb x1)]) (L':=[]) (by cases hx1;rfl) (by cases hx1;rfl) (To.ah (cn h (fun h=>?_) (fun h=>?_))))
   ·refine Wp.seq (rg [2] [] [(2,vb false)] [] (To.ah (Wp.ret (To.aP (To.aA (To.aA ?_))))))
    cases h
    exact hQ
   ·refine Wp.skip (To.aR (To.ah (rg [0,3] [] [(0,.str v0),(uz v3)] [] (kt [0,3] [] [(0,.str v0),(uz v3)] [] (To.again ?_)))))
    exact ih (IntKind.wrap .i64 (v3+1)) _ h hQ
  ·refine Wp.exit (To.aK (To.aK (kt [] [] [] [] ?_)))
   cases h
   exact hQ
def pQ(n:Nat)(a0:Bs):Option (Bool) :=
 if(bif (decide ((List.length a0:Int)<1)) then true else(decide ((List.length a0:Int)>64)))=true then some false
 else((jP n a0 n 0).bind fun o1 =>
 (Sum.elim (fun o1=>some true) (fun o1=>some o1)) o1)
abbrev U3(x0:Bs):=(decide ((List.length x0:Int)<1))
theorem zf(n:Nat)(a0:Bs)(r:Bool)(h:pQ n a0=some r):aJ Tryz.prog 132 [.str a0] (vb r):=by
 unfold pQ at h
 refine xo Tryz.f132 rfl fun F0 w0 _=>?_
 refine Wp.seq (rg [0] [] [(0,.str a0)] [] (To.ah (Wp.seq (Wp.seq (rg [0,11] [] [(0,.str a0),(11,vb (bif (U3 a0) then true else(decide ((List.length a0:Int)>64))))] [] (To.ah (cn h (fun h=>?_) (fun h=>?_))))))))
 ·refine Wp.seq (rg [2] [] [(2,vb false)] [] (To.ah (Wp.ret (To.aA ?_))))
  cases h
  exact To.done hΓ (by kernel_rfl)
 ·refine Wp.skip (To.ah (Wp.seq (Wp.seq (rg [0,3] [] [(0,.str a0),(3,vi 0)] [] (To.ah (Wp.block ?_))))))
  obtain⟨o1,ho1,h⟩:=au h
  refine kw [0,3] [] [(0,.str a0),(3,vi 0)] [] (Wp.bE (EV n a0 n 0 o1 ho1 ?_))
  rcases o1 with o1|o1
  ·replace h:=cv h
   refine To.aY (To.ah (Wp.seq (rg [2] [] [(2,vb true)] [] (To.ah (Wp.ret ?_)))))
   cases h
   exact To.done hΓ (by kernel_rfl)
  ·replace h:=cy h
   refine To.aP (To.aA ?_)
   cases h
   exact To.done hΓ (by kernel_rfl)
def oO(n:Nat)(v0:Bs)(v3:Int)(v4:Int):Option (Sum (Int) (Bool)) :=
 if((!((decide (v4<(List.length v0:Int)))==true)||decide (0<=v4/\v4<(List.length v0:Int))))=true then(if(bif (decide (v4<(List.length v0:Int))) then((((v0)[Int.toNat v4]?.getD 0).toNat:Int) != 47) else false)=true then(some (.inl v3))
 else(if(decide (0<=v4/\v4<=(List.length v0:Int)))=true then(if(decide (0<=v3/\v3<=v4))=true then(aQ ((bif (bif ((List.take (Int.toNat v4-Int.toNat v3) (List.drop (Int.toNat v3) v0))==[]) then true else((List.take (Int.toNat v4-Int.toNat v3) (List.drop (Int.toNat v3) v0))==[46])) then true else((List.take (Int.toNat v4-Int.toNat v3) (List.drop (Int.toNat v3) v0))==[46,46])):Bool) fun x2 =>
 if x2=true then(some (.inr false))
 else(some (.inl (IntKind.wrap .i64 (v4+1))))) else none) else none)) else none
theorem zF(n:Nat)(v0:Bs)(v3:Int)(v4:Int)(o:Sum (Int) (Bool))(h:oO n v0 v3 v4=some o)(hQ:(Sum.elim (fun s=>To 48 F0 w0 [(0,.str v0),(3,vi s),(4,vi v4)] [] .normal Q) (fun s=>To 48 F0 w0 [(2,vb s)] [] .ret Q)) o):Wp Tryz.prog 48 F0 w0 [(0,.str v0),(3,vi v3),(4,vi v4)] [] (cA (cB (cI (cI (cB (cA (cB (cB (cB (cB (cF Tryz.f131))))))))))) Q:=by
 unfold oO at h
 refine Wp.block (Wp.seq (Wp.seq ?_))
 obtain⟨hc5,h⟩:=ax h
 refine r0 [0,3,4,31] [] [(0,.str v0),(3,vi v3),(4,vi v4),(31,vb (bif (mj v4 v0) then((bK v0 v4) != 47) else false))] [] (ai.cons hc5 ai.nil) (To.ah (cn h (fun h=>?_) (fun h=>?_)))
 ·refine Wp.exit (To.aK (To.aY (kt [0,3,4] [] [(0,.str v0),(3,vi v3),(4,vi v4)] [] ?_)))
  cases h
  exact hQ
 ·refine Wp.skip (To.ah (Wp.seq ?_))
  obtain⟨hc3,h⟩:=ax h
  obtain⟨hc4,h⟩:=ax h
  refine r0 [0,4,5] [] [(0,.str v0),(4,vi v4),(5,.str (yo v4 v3 v0))] [] (ai.cons hc3 (ai.cons hc4 ai.nil)) (To.ah (Wp.seq (Wp.seq ?_)))
  obtain⟨x2,hx2,h⟩:=aS h
  refine rg [0,4,45] [] [(0,.str v0),(4,vi v4),(45,vb (bif (bif ((yo v4 v3 v0)==[]) then true else((yo v4 v3 v0)==[46])) then true else((yo v4 v3 v0)==[46,46])))] [] (To.eq (K':=[(0,.str v0),(4,vi v4),(45,vb x2)]) (L':=[]) (by cases hx2;rfl) (by cases hx2;rfl) (To.ah (cn h (fun h=>?_) (fun h=>?_))))
  ·refine Wp.seq (rg [2] [] [(2,vb false)] [] (To.ah (Wp.ret (To.aA (To.aP ?_)))))
   cases h
   exact hQ
  ·refine Wp.skip (To.ah (rg [0,3,4] [] [(0,.str v0),(uz v4),(4,vi v4)] [] (To.aR ?_)))
   cases h
   exact hQ
def jy(n:Nat)(v0:Bs):Nat->Int->Int->Option (Sum (Unit) (Bool))
 |0,_,_=>none
 |k+1,v3,v4=>if(decide (v4<=(List.length v0:Int)))=true then((oO n v0 v3 v4).bind fun o2 =>
 (Sum.elim (fun o2=>jy n v0 k o2 (IntKind.wrap .i64 (v4+1))) (fun o2=>some (.inr o2))) o2)
 else(some (.inl ()))
theorem zy(n:Nat)(v0:Bs)(k:Nat):∀(v3:Int)(v4:Int)(o:Sum (Unit) (Bool)),jy n v0 k v3 v4=some o->(Sum.elim (fun s=>To 48 F0 w0 [] [] (.exit 0) Q) (fun s=>To 48 F0 w0 [(2,vb s)] [] .ret Q)) o->WL Tryz.prog 48 F0 w0 [(0,.str v0),(3,vi v3),(4,vi v4)] [] (cI (cI (cB (cA (cB (cB (cB (cB (cF Tryz.f131))))))))) Q:=by
 induction k with
 |zero=>intro v3 v4 o h;cases h
 |succ k ih =>
  intro v3 v4 o h hQ
  rw[jy] at h
  refine WL.round (Wp.seq (Wp.seq (rg [0,3,4,19] [] [(0,.str v0),(3,vi v3),(4,vi v4),(19,vb (decide (v4<=(List.length v0:Int))))] [] (To.ah (cn h (fun h=>?_) (fun h=>?_))))))
  ·refine Wp.skip (To.ah (Wp.seq ?_))
   obtain⟨o2,ho2,h⟩:=au h
   refine kw [0,3,4] [] [(0,.str v0),(3,vi v3),(4,vi v4)] [] (zF n v0 v3 v4 o2 ho2 ?_)
   rcases o2 with o2|o2
   ·replace h:=cv h
    refine To.ah (rg [0,3,4] [] [(0,.str v0),(3,vi o2),(lL v4)] [] (kt [0,3,4] [] [(0,.str v0),(3,vi o2),(lL v4)] [] (To.again ?_)))
    exact ih o2 (IntKind.wrap .i64 (v4+1)) _ h hQ
   ·replace h:=cy h
    refine To.aA (To.aA (kt [2] [] [(2,vb o2)] [] ?_))
    cases h
    exact hQ
  ·refine Wp.exit (To.aK (To.aK (kt [] [] [] [] ?_)))
   cases h
   exact hQ
def pL(n:Nat)(a0:Bs):Option (Bool) :=
 (pQ n a0).bind fun r1 =>
 if((!((!r1)==false)||decide (0<=(0:Int)/\(0:Int)<(List.length a0:Int))))=true then(if(bif (!r1) then true else((((a0)[Int.toNat 0]?.getD 0).toNat:Int) != 47))=true then some false
 else(if(a0==[47])=true then some true
 else((jy n a0 n 1 1).bind fun o2 =>
 (Sum.elim (fun o2=>some true) (fun o2=>some o2)) o2))) else none
theorem GF(n:Nat)(a0:Bs)(r:Bool)(h:pL n a0=some r):aJ Tryz.prog 131 [.str a0] (vb r):=by
 unfold pL at h
 refine xo Tryz.f131 rfl fun F0 w0 _=>?_
 refine Wp.seq (rg [0] [] [(0,.str a0)] [] (To.ah (Wp.seq (Wp.seq ?_))))
 obtain⟨r1,hr1,h⟩:=au h
 obtain⟨hc3,h⟩:=ax h
 refine rr [] [(1,vb r1)] [] [0,13] [] [(0,.str a0),(13,vb (bif (!r1) then true else((((a0)[Int.toNat 0]?.getD 0).toNat:Int) != 47)))] [] [_,_] (ai.cons (c1 (zf n a0 _ hr1)) (ai.cons hc3 ai.nil)) (To.ah (cn h (fun h=>?_) (fun h=>?_)))
 ·refine Wp.seq (rg [2] [] [(2,vb false)] [] (To.ah (Wp.ret (To.aA ?_))))
  cases h
  exact To.done hΓ (by kernel_rfl)
 ·refine Wp.skip (To.ah (Wp.seq (Wp.seq (rg [0,15] [] [(0,.str a0),(15,vb (a0==[47]))] [] (To.ah (cn h (fun h=>?_) (fun h=>?_)))))))
  ·refine Wp.seq (rg [2] [] [(2,vb true)] [] (To.ah (Wp.ret (To.aA ?_))))
   cases h
   exact To.done hΓ (by kernel_rfl)
  ·refine Wp.skip (To.ah (Wp.seq (rg [0,3] [] [(0,.str a0),(3,vi 1)] [] (To.ah (Wp.seq (Wp.seq (rg [0,3,4] [] [(0,.str a0),(3,vi 1),(4,vi 1)] [] (To.ah (Wp.block ?_)))))))))
   obtain⟨o2,ho2,h⟩:=au h
   refine kw [0,3,4] [] [(0,.str a0),(3,vi 1),(4,vi 1)] [] (Wp.bE (zy n a0 n 1 1 o2 ho2 ?_))
   rcases o2 with o2|o2
   ·replace h:=cv h
    refine To.aY (To.ah (Wp.seq (rg [2] [] [(2,vb true)] [] (To.ah (Wp.ret ?_)))))
    cases h
    exact To.done hΓ (by kernel_rfl)
   ·replace h:=cy h
    refine To.aP (To.aA ?_)
    cases h
    exact To.done hΓ (by kernel_rfl)
def mD(n:Nat)(a0:aL):Option (Bool) :=
 (pL n a0.cY).bind fun r1 =>
 if(!r1)=true then some false
 else(((if(((List.length a0.aZ:Int)==0)==false)=true then il n a0.aZ else some false)).bind fun r2 =>
 if(bif ((List.length a0.aZ:Int)==0) then true else r2)=true then some true
 else((pQ n a0.aZ).bind fun r3 =>
 if((!(r3==true)||decide (0<=(0:Int)/\(0:Int)<(List.length a0.aZ:Int))))=true then(if((!((((((a0.aZ)[Int.toNat 0]?.getD 0).toNat:Int)==47)==false)&&(r3==true))||decide (0<=(0:Int)/\(0:Int)<(List.length a0.aZ:Int))))=true then(aQ ((bif r3 then(bif ((((a0.aZ)[Int.toNat 0]?.getD 0).toNat:Int)==47) then true else((((a0.aZ)[Int.toNat 0]?.getD 0).toNat:Int)==46)) else false):Bool) fun x4 =>
 some x4) else none) else none))
abbrev bM(x:aL):List D:=[.str x.aZ,.str x.cY,vb x.gk]
abbrev K3(x0:aL):=(List.length x0.aZ:Int)
theorem ux(n:Nat)(a0:aL)(r:Bool)(h:mD n a0=some r):aJ Tryz.prog 123 [.agg (bM a0)] (vb r):=by
 unfold mD at h
 refine xo Tryz.f123 rfl fun F0 w0 _=>?_
 refine Wp.seq (rg [1] [1] [(1,.own 1 0)] [(1,104,bM a0)] (To.ah (Wp.seq (Wp.seq ?_))))
 obtain⟨r1,hr1,h⟩:=au h
 refine rc [] 2 [1,7] [1] [(1,.own 1 0),(7,vb (!r1))] [(1,104,bM a0)] (GF n a0.cY _ hr1) (To.ah (cn h (fun h=>?_) (fun h=>?_)))
 ·refine Wp.seq (rg [2] [] [(2,vb false)] [] (To.ah (Wp.ret (To.aA ?_))))
  cases h
  exact To.done hΓ (by kernel_rfl)
 ·refine Wp.skip (To.ah (Wp.seq (rg [3] [] [(3,.str a0.aZ)] [] (To.ah (Wp.seq (Wp.seq ?_))))))
  obtain⟨r2,hr2,h⟩:=au h
  refine rr [] [(5,vb r2)] [] [3,16] [] [(3,.str a0.aZ),(16,vb (bif ((K3 a0)==0) then true else r2))] [] [((((K3 a0)==0)==false)=true->CX Tryz.prog 45 [.str a0.aZ] (vb r2))] (ai.cons (fun hg=>cx (jW n a0.aZ _ (jB hg hr2))) ai.nil) (To.ah (cn h (fun h=>?_) (fun h=>?_)))
  ·refine Wp.seq (rg [2] [] [(2,vb true)] [] (To.ah (Wp.ret (To.aA ?_))))
   cases h
   exact To.done hΓ (by kernel_rfl)
  ·refine Wp.skip (To.ah (Wp.seq ?_))
   obtain⟨r3,hr3,h⟩:=au h
   obtain⟨hc5,h⟩:=ax h
   obtain⟨hc6,h⟩:=ax h
   obtain⟨x4,hx4,h⟩:=aS h
   refine rr [] [(1,vb r3)] [] [2] [] [(2,vb (bif r3 then(bif ((((a0.aZ)[Int.toNat 0]?.getD 0).toNat:Int)==47) then true else((((a0.aZ)[Int.toNat 0]?.getD 0).toNat:Int)==46)) else false))] [] [_,_,_] (ai.cons (c1 (zf n a0.aZ _ hr3)) (ai.cons hc5 (ai.cons hc6 ai.nil))) (To.eq (K':=[(2,vb x4)]) (L':=[]) (by cases hx4;rfl) (by cases hx4;rfl) (To.ah (Wp.ret ?_)))
   cases h
   exact To.done hΓ (by kernel_rfl)
def mO(n:Nat)(v0:Bs)(v5:Int)(v27:Bool)(b2:aL)(b4:aL):Option (Bs×aL) :=
 if v27=true then(if(decide (0<=(IntKind.wrap .i64 (v5-1))/\(IntKind.wrap .i64 (v5-1))<(List.length v0:Int)))=true then(if(decide (0<=(IntKind.wrap .i64 (v5-3))/\(IntKind.wrap .i64 (v5-3))<=(List.length v0:Int)))=true then(some ((List.take (Int.toNat (IntKind.wrap .i64 (v5-3))) v0),(aL.mk b4.aZ b4.cY ((((v0)[Int.toNat (IntKind.wrap .i64 (v5-1))]?.getD 0).toNat:Int)==111)))) else none) else none)
 else(some (v0,b4))
abbrev RF(x0:aL)(x1:Bs)(x2:Int):Nat×Nat×List D:=(4,104,[.str x0.aZ,.str x0.cY,vb ((((x1)[Int.toNat (IntKind.wrap .i64 (x2-1))]?.getD 0).toNat:Int)==111)])
abbrev TV(x0:Int):=(Int.toNat (IntKind.wrap .i64 (x0-3)))
theorem CV(n:Nat)(v0:Bs)(v5:Int)(v27:Bool)(b2:aL)(b4:aL)(o:Bs×aL)(h:mO n v0 v5 v27 b2 b4=some o)(hQ:To 74 F0 w0 [(0,.str o.1),(2,.own 2 0),(4,.own 4 0)] [(2,104,bM b2),(4,104,bM o.2)] .normal Q):Wp Tryz.prog 74 F0 w0 [(0,.str v0),(2,.own 2 0),(4,.own 4 0),(5,vi v5),(27,vb v27)] [(2,104,bM b2),(4,104,bM b4)] (cB (cA (cB (cB (cB (cF Tryz.f122)))))) Q:=by
 unfold mO at h
 refine cn h (fun h=>?_) (fun h=>?_)
 ·refine Wp.seq ?_
  obtain⟨hc3,h⟩:=ax h
  refine r0 [0,2,4,5] [2,4] [(0,.str v0),(2,.own 2 0),(4,.own 4 0),(5,vi v5)] [(2,104,bM b2),(RF b4 v0 v5)] (ai.cons hc3 ai.nil) (To.ah ?_)
  obtain⟨hc2,h⟩:=ax h
  refine r0 [0,2,4] [2,4] [(0,.str (List.take (TV v5) v0)),(2,.own 2 0),(4,.own 4 0)] [(2,104,bM b2),(RF b4 v0 v5)] (ai.cons hc2 ai.nil) (kt [0,2,4] [2,4] [(0,.str (List.take (TV v5) v0)),(2,.own 2 0),(4,.own 4 0)] [(2,104,bM b2),(RF b4 v0 v5)] ?_)
  cases h
  exact hQ
 ·refine Wp.skip (kt [0,2,4] [2,4] [(0,.str v0),(2,.own 2 0),(4,.own 4 0)] [(2,104,bM b2),(4,104,bM b4)] ?_)
  cases h
  exact hQ
def pR(n:Nat)(v0:Bs)(v6:Int)(v7:Int)(v8:Int)(b2:aL)(b4:aL):Option (Int×Int) :=
 if(decide (0<=v8/\v8<(List.length v0:Int)))=true then(if((((v0)[Int.toNat v8]?.getD 0).toNat:Int)==58)=true then(some (v8,(IntKind.wrap .i64 (v7+1))))
 else(some (v6,v7))) else none
theorem CO(n:Nat)(v0:Bs)(v6:Int)(v7:Int)(v8:Int)(b2:aL)(b4:aL)(o:Int×Int)(h:pR n v0 v6 v7 v8 b2 b4=some o)(hQ:To 74 F0 w0 [(0,.str v0),(2,.own 2 0),(4,.own 4 0),(6,vi o.1),(7,vi o.2),(8,vi v8)] [(2,104,bM b2),(4,104,bM b4)] .normal Q):Wp Tryz.prog 74 F0 w0 [(0,.str v0),(2,.own 2 0),(4,.own 4 0),(6,vi v6),(7,vi v7),(8,vi v8)] [(2,104,bM b2),(4,104,bM b4)] (cA (cB (cI (cI (cB (cA (cB (cB (cB (cB (cB (cB (cF Tryz.f122))))))))))))) Q:=by
 unfold pR at h
 refine Wp.block (Wp.seq ?_)
 obtain⟨hc3,h⟩:=ax h
 refine r0 [0,2,4,6,7,8,47] [2,4] [(0,.str v0),(2,.own 2 0),(4,.own 4 0),(6,vi v6),(7,vi v7),(8,vi v8),(47,vb ((bK v0 v8)==58))] [(2,104,bM b2),(4,104,bM b4)] (ai.cons hc3 ai.nil) (To.ah (cn h (fun h=>?_) (fun h=>?_)))
 ·refine Wp.seq (rg [0,2,4,7,8] [2,4] [(0,.str v0),(2,.own 2 0),(4,.own 4 0),(ex7 v7),(8,vi v8)] [(2,104,bM b2),(4,104,bM b4)] (To.ah (rg [0,2,4,6,7,8] [2,4] [(0,.str v0),(2,.own 2 0),(4,.own 4 0),(6,vi v8),(ex7 v7),(8,vi v8)] [(2,104,bM b2),(4,104,bM b4)] (To.aR ?_))))
  cases h
  exact hQ
 ·refine Wp.skip (To.aR (kt [0,2,4,6,7,8] [2,4] [(0,.str v0),(2,.own 2 0),(4,.own 4 0),(6,vi v6),(7,vi v7),(8,vi v8)] [(2,104,bM b2),(4,104,bM b4)] ?_))
  cases h
  exact hQ
def dX(n:Nat)(v0:Bs)(b2:aL)(b4:aL):Nat->Int->Int->Int->Option (Int×Int)
 |0,_,_,_=>none
 |k+1,v6,v7,v8=>if(decide (v8<(List.length v0:Int)))=true then((pR n v0 v6 v7 v8 b2 b4).bind fun o3 =>
 dX n v0 b2 b4 k o3.1 o3.2 (IntKind.wrap .i64 (v8+1)))
 else(some (v6,v7))
theorem B8(n:Nat)(v0:Bs)(b2:aL)(b4:aL)(k:Nat):∀(v6:Int)(v7:Int)(v8:Int)(o:Int×Int),dX n v0 b2 b4 k v6 v7 v8=some o->To 74 F0 w0 [(0,.str v0),(2,.own 2 0),(4,.own 4 0),(6,vi o.1),(7,vi o.2)] [(2,104,bM b2),(4,104,bM b4)] (.exit 0) Q->WL Tryz.prog 74 F0 w0 [(0,.str v0),(2,.own 2 0),(4,.own 4 0),(6,vi v6),(7,vi v7),(8,vi v8)] [(2,104,bM b2),(4,104,bM b4)] (cI (cI (cB (cA (cB (cB (cB (cB (cB (cB (cF Tryz.f122))))))))))) Q:=by
 induction k with
 |zero=>intro v6 v7 v8 o h;cases h
 |succ k ih =>
  intro v6 v7 v8 o h hQ
  rw[dX] at h
  refine WL.round (Wp.seq (Wp.seq (rg [0,2,4,6,7,8,41] [2,4] [(0,.str v0),(2,.own 2 0),(4,.own 4 0),(6,vi v6),(7,vi v7),(8,vi v8),(41,vb (mj v8 v0))] [(2,104,bM b2),(4,104,bM b4)] (To.ah (cn h (fun h=>?_) (fun h=>?_))))))
  ·refine Wp.skip (To.ah (Wp.seq ?_))
   obtain⟨o3,ho3,h⟩:=au h
   refine kw [0,2,4,6,7,8] [2,4] [(0,.str v0),(2,.own 2 0),(4,.own 4 0),(6,vi v6),(7,vi v7),(8,vi v8)] [(2,104,bM b2),(4,104,bM b4)] (CO n v0 v6 v7 v8 b2 b4 o3 ho3 (To.ah (rg [0,2,4,6,7,8] [2,4] [(0,.str v0),(2,.own 2 0),(4,.own 4 0),(6,vi o3.1),(7,vi o3.2),(xE v8)] [(2,104,bM b2),(4,104,bM b4)] (kt [0,2,4,6,7,8] [2,4] [(0,.str v0),(2,.own 2 0),(4,.own 4 0),(6,vi o3.1),(7,vi o3.2),(xE v8)] [(2,104,bM b2),(4,104,bM b4)] (To.again ?_)))))
   exact ih o3.1 o3.2 (IntKind.wrap .i64 (v8+1)) _ h hQ
  ·refine Wp.exit (To.aK (To.aK (kt [0,2,4,6,7] [2,4] [(0,.str v0),(2,.own 2 0),(4,.own 4 0),(6,vi v6),(7,vi v7)] [(2,104,bM b2),(4,104,bM b4)] ?_)))
   cases h
   exact hQ
def np(n:Nat)(v0:Bs)(v6:Int)(v59:Bool)(b2:aL)(b4:aL):Option (aL) :=
 if v59=true then(if(decide (0<=v6/\v6<=(List.length v0:Int)))=true then(some (aL.mk (List.take (Int.toNat v6) v0) b4.cY b4.gk)) else none)
 else some b4
theorem Ce(n:Nat)(v0:Bs)(v6:Int)(v59:Bool)(b2:aL)(b4:aL)(o:aL)(h:np n v0 v6 v59 b2 b4=some o)(hQ:To 74 F0 w0 [(0,.str v0),(2,.own 2 0),(4,.own 4 0),(6,vi v6)] [(2,104,bM b2),(4,104,bM o)] .normal Q):Wp Tryz.prog 74 F0 w0 [(0,.str v0),(2,.own 2 0),(4,.own 4 0),(6,vi v6),(59,vb v59)] [(2,104,bM b2),(4,104,bM b4)] (cB (cA (cB (cB (cB (cB (cB (cB (cB (cB (cF Tryz.f122))))))))))) Q:=by
 unfold np at h
 refine cn h (fun h=>?_) (fun h=>?_)
 ·obtain⟨hc4,h⟩:=ax h
  refine r0 [0,2,4,6] [2,4] [(0,.str v0),(2,.own 2 0),(4,.own 4 0),(6,vi v6)] [(2,104,bM b2),(4,104,[.str (List.take (Int.toNat v6) v0),.str b4.cY,vb b4.gk])] (ai.cons hc4 ai.nil) (kt [0,2,4,6] [2,4] [(0,.str v0),(2,.own 2 0),(4,.own 4 0),(6,vi v6)] [(2,104,bM b2),(4,104,[.str (List.take (Int.toNat v6) v0),.str b4.cY,vb b4.gk])] ?_)
  cases h
  exact hQ
 ·refine Wp.skip (kt [0,2,4,6] [2,4] [(0,.str v0),(2,.own 2 0),(4,.own 4 0),(6,vi v6)] [(2,104,bM b2),(4,104,bM b4)] ?_)
  cases h
  exact hQ
def qJ(n:Nat)(a0:Bs):Option (aL×Int) :=
 if((!((decide ((List.length a0:Int)>=3))==true)||decide (0<=(IntKind.wrap .i64 ((List.length a0:Int)-3))/\(IntKind.wrap .i64 ((List.length a0:Int)-3))<=(List.length a0:Int))))=true then(if((!((((List.drop (Int.toNat (IntKind.wrap .i64 ((List.length a0:Int)-3))) a0)==uT)==false)&&((decide ((List.length a0:Int)>=3))==true))||decide (0<=(IntKind.wrap .i64 ((List.length a0:Int)-3))/\(IntKind.wrap .i64 ((List.length a0:Int)-3))<=(List.length a0:Int))))=true then(aQ ((bif (decide ((List.length a0:Int)>=3)) then(bif ((List.drop (Int.toNat (IntKind.wrap .i64 ((List.length a0:Int)-3))) a0)==uT) then true else((List.drop (Int.toNat (IntKind.wrap .i64 ((List.length a0:Int)-3))) a0)==[58,114,119])) else false):Bool) fun x1 =>
 (mO n a0 (List.length a0:Int) x1 (aL.mk [] [] false) (aL.mk [] [] false)).bind fun o2 =>
 (dX n o2.1 (aL.mk [] [] false) o2.2 n (-1) 0 0).bind fun o3 =>
 if(bif (decide (o3.2>1)) then true else(o3.1==0))=true then(some ((aL.mk [] [] false),3))
 else((np n o2.1 o3.1 (o3.2==1) (aL.mk [] [] false) o2.2).bind fun o4 =>
 if(decide (0<=(IntKind.wrap .i64 (o3.1+1))/\(IntKind.wrap .i64 (o3.1+1))<=(List.length o2.1:Int)))=true then((mD n (aL.mk o4.aZ (List.drop (Int.toNat (IntKind.wrap .i64 (o3.1+1))) o2.1) o4.gk)).bind fun r5 =>
 if(!r5)=true then(some ((aL.mk [] [] false),3))
 else(some ((aL.mk o4.aZ (List.drop (Int.toNat (IntKind.wrap .i64 (o3.1+1))) o2.1) o4.gk),0))) else none)) else none) else none
abbrev Oo:aL:=aL.mk [] [] false
abbrev Um(x0:Bs):=(IntKind.wrap .i64 ((List.length x0:Int)-3))
theorem G8(n:Nat)(a0:Bs)(r:aL×Int)(h:qJ n a0=some r):aJ Tryz.prog 122 [.str a0] (.tup [.agg (bM r.1),vi r.2]):=by
 unfold qJ at h
 refine xo Tryz.f122 rfl fun F0 w0 _=>?_
 refine Wp.seq (rg [0,2] [2] [(0,.str a0),(2,.own 2 0)] [(2,104,[.str [],.str [],vb false])] (To.ah (Wp.seq (rg [0,2,4] [2,4] [(0,.str a0),(2,.own 2 0),(4,.own 4 0)] [(2,104,[.str [],.str [],vb false]),(4,104,[.str [],.str [],vb false])] (To.ah (Wp.seq (rg [0,2,4,5] [2,4] [(0,.str a0),(2,.own 2 0),(4,.own 4 0),(zC a0)] [(2,104,[.str [],.str [],vb false]),(4,104,[.str [],.str [],vb false])] (To.ah (Wp.seq (Wp.seq ?_))))))))))
 obtain⟨hc7,h⟩:=ax h
 obtain⟨hc8,h⟩:=ax h
 obtain⟨x1,hx1,h⟩:=aS h
 refine r0 [0,2,4,5,27] [2,4] [(0,.str a0),(2,.own 2 0),(4,.own 4 0),(zC a0),(27,vb (bif (decide ((List.length a0:Int)>=3)) then(bif ((List.drop (Int.toNat (Um a0)) a0)==uT) then true else((List.drop (Int.toNat (Um a0)) a0)==[58,114,119])) else false))] [(2,104,[.str [],.str [],vb false]),(4,104,[.str [],.str [],vb false])] (ai.cons hc7 (ai.cons hc8 ai.nil)) (To.eq (K':=[(0,.str a0),(2,.own 2 0),(4,.own 4 0),(zC a0),(27,vb x1)]) (L':=[(2,104,[.str [],.str [],vb false]),(4,104,[.str [],.str [],vb false])]) (by cases hx1;rfl) (by cases hx1;rfl) (To.ah ?_))
 obtain⟨o2,ho2,h⟩:=au h
 refine kw [0,2,4,5,27] [2,4] [(0,.str a0),(2,.own 2 0),(4,.own 4 0),(zC a0),(27,vb x1)] [(2,104,[.str [],.str [],vb false]),(4,104,[.str [],.str [],vb false])] (CV n a0 (List.length a0:Int) x1 Oo Oo o2 ho2 (To.ah (Wp.seq (rg [0,2,4,6] [2,4] [(0,.str o2.1),(2,.own 2 0),(4,.own 4 0),(6,vi (-1))] [(2,104,[.str [],.str [],vb false]),(4,104,bM o2.2)] (To.ah (Wp.seq (rg [0,2,4,6,7] [2,4] [(0,.str o2.1),(2,.own 2 0),(4,.own 4 0),(6,vi (-1)),(7,vi 0)] [(2,104,[.str [],.str [],vb false]),(4,104,bM o2.2)] (To.ah (Wp.seq (Wp.seq ?_))))))))))
 refine rg [0,2,4,6,7,8] [2,4] [(0,.str o2.1),(2,.own 2 0),(4,.own 4 0),(6,vi (-1)),(7,vi 0),(8,vi 0)] [(2,104,[.str [],.str [],vb false]),(4,104,bM o2.2)] (To.ah (Wp.block ?_))
 obtain⟨o3,ho3,h⟩:=au h
 refine kw [0,2,4,6,7,8] [2,4] [(0,.str o2.1),(2,.own 2 0),(4,.own 4 0),(6,vi (-1)),(7,vi 0),(8,vi 0)] [(2,104,[.str [],.str [],vb false]),(4,104,bM o2.2)] (Wp.bE (B8 n o2.1 Oo o2.2 n (-1) 0 0 o3 ho3 (To.aY (To.ah (Wp.seq (Wp.seq (rg [0,2,4,6,7,56] [2,4] [(0,.str o2.1),(2,.own 2 0),(4,.own 4 0),(6,vi o3.1),(7,vi o3.2),(56,vb (bif (decide (o3.2>1)) then true else(o3.1==0)))] [(2,104,[.str [],.str [],vb false]),(4,104,bM o2.2)] (To.ah (cn h (fun h=>?_) (fun h=>?_))))))))))
 ·refine Wp.seq (rg [2,3] [2] [(2,.own 2 0),(3,vi 3)] [(2,104,[.str [],.str [],vb false])] (To.ah (Wp.ret (To.aA ?_))))
  cases h
  exact To.done hΓ (by kernel_rfl)
 ·refine Wp.skip (To.ah (Wp.seq (Wp.seq (rg [0,2,4,6,59] [2,4] [(0,.str o2.1),(2,.own 2 0),(4,.own 4 0),(6,vi o3.1),(59,vb (o3.2==1))] [(2,104,[.str [],.str [],vb false]),(4,104,bM o2.2)] (To.ah ?_)))))
  obtain⟨o4,ho4,h⟩:=au h
  refine kw [0,2,4,6,59] [2,4] [(0,.str o2.1),(2,.own 2 0),(4,.own 4 0),(6,vi o3.1),(59,vb (o3.2==1))] [(2,104,[.str [],.str [],vb false]),(4,104,bM o2.2)] (Ce n o2.1 o3.1 (o3.2==1) Oo o2.2 o4 ho4 (To.ah (Wp.seq ?_)))
  obtain⟨hc6,h⟩:=ax h
  refine r0 [2,4] [2,4] [(2,.own 2 0),(4,.own 4 0)] [(2,104,[.str [],.str [],vb false]),(4,104,[.str o4.aZ,.str (List.drop (Int.toNat (IntKind.wrap .i64 (o3.1+1))) o2.1),vb o4.gk])] (ai.cons hc6 ai.nil) (To.ah (Wp.seq (Wp.seq ?_)))
  obtain⟨r5,hr5,h⟩:=au h
  refine rc [] 1 [2,4,71] [2,4] [(2,.own 2 0),(4,.own 4 0),(71,vb (!r5))] [(2,104,[.str [],.str [],vb false]),(4,104,[.str o4.aZ,.str (List.drop (Int.toNat (IntKind.wrap .i64 (o3.1+1))) o2.1),vb o4.gk])] (ux n (aL.mk o4.aZ (List.drop (Int.toNat (IntKind.wrap .i64 (o3.1+1))) o2.1) o4.gk) _ hr5) (To.ah (cn h (fun h=>?_) (fun h=>?_)))
  ·refine Wp.seq (rg [2,3] [2] [(2,.own 2 0),(3,vi 3)] [(2,104,[.str [],.str [],vb false])] (To.ah (Wp.ret (To.aA ?_))))
   cases h
   exact To.done hΓ (by kernel_rfl)
  ·refine Wp.skip (To.ah (Wp.seq (rg [2,3] [2] [(2,.own 2 0),(3,vi 0)] [(2,104,[.str o4.aZ,.str (List.drop (Int.toNat (IntKind.wrap .i64 (o3.1+1))) o2.1),vb o4.gk])] (To.ah (Wp.ret ?_)))))
   cases h
   exact To.done hΓ (by kernel_rfl)
def kQ(n:Nat)(a0:af)(a1:Bs)(a2:Bs):Option (Bs×Bool) :=
 (eX n a0 a1 a2).bind fun r1 =>
 some (r1.1,(bif r1.2 then(bif (r1.1==nJ) then true else(r1.1==xm)) else false))
end Go.Proofs.YtpmmhhmhckpnfaaGreat.M
