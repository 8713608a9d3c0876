import Derived.Test.YtpmmhhmhckpnfaaDoorQPlain
set_option linter.all false
namespace Go.Proofs.YtpmmhhmhckpnfaaDoor.M
open Go.RowKit Go.Proofs.YtpmmhhmhckpnfaaDoor.RX
set_option maxRecDepth 100000
def ck(n:Nat)(v0:Ls)(v1:Bs)(v7:Int):Nat->Int->Option (Sum (Unit) (Int))
 |0,_=>none
 |k+1,v8=>if(decide (v8<v7))=true then(if(decide (0<=v8/\v8<(List.length v0:Int)))=true then(if(v1==((v0)[Int.toNat v8]?.getD []))=true then(some (.inr v8))
 else(ck n v0 v1 v7 k (IntKind.wrap .i64 (v8+1)))) else none)
 else(some (.inl ()))
abbrev rO(x0:Int):Nat×D:=(8,vi (IntKind.wrap .i64 (x0+1)))
variable {F0:Fz} {w0:Pt Tryd.prog} {Q:Exit->Act->World->Prop}
theorem l9(n:Nat)(v0:Ls)(v1:Bs)(v7:Int)(k:Nat):∀(v8:Int)(o:Sum (Unit) (Int)),ck n v0 v1 v7 k v8=some o->(Sum.elim (fun s=>To 19 F0 w0 [] [] (.exit 0) Q) (fun s=>To 19 F0 w0 [(4,vi s)] [] .ret Q)) o->WL Tryd.prog 19 F0 w0 [(0,ls v0),(1,.str v1),(7,vi v7),(8,vi v8)] [] (cI (cI (cB (cA (cB (cF Tryd.f36)))))) Q:=by
 induction k with
 |zero=>intro v8 o h;cases h
 |succ k ih =>
  intro v8 o h hQ
  rw[ck] at h
  refine WL.round (Wp.seq (rg [0,1,7,8,9] [] [(0,ls v0),(1,.str v1),(7,vi v7),(8,vi v8),(9,vb (decide (v8<v7)))] [] (To.aj (Wp.seq (cn h (fun h=>?_) (fun h=>?_))))))
  ·refine Wp.skip (To.aj (Wp.seq (Wp.block (Wp.seq (rg [0,1,5,7,8] [] [(0,ls v0),(1,.str v1),(5,vi v8),(7,vi v7),(8,vi v8)] [] (To.aj (Wp.seq ?_)))))))
   obtain⟨hc1,h⟩:=bg h
   refine r0 [0,1,5,7,8,16] [] [(0,ls v0),(1,.str v1),(5,vi v8),(7,vi v7),(8,vi v8),(16,vb (v1==((v0)[Int.toNat v8]?.getD [])))] [] (ax.cons hc1 ax.nil) (To.aj (cn h (fun h=>?_) (fun h=>?_)))
   ·refine Wp.seq (rg [4] [] [(4,vi v8)] [] (To.aj (Wp.ret (To.bH (To.aX (To.aX ?_))))))
    cases h
    exact hQ
   ·refine Wp.skip (To.bT (To.aj (rg [0,1,7,8] [] [(0,ls v0),(1,.str v1),(7,vi v7),(rO v8)] [] (kt [0,1,7,8] [] [(0,ls v0),(1,.str v1),(7,vi v7),(rO v8)] [] (To.again ?_)))))
    exact ih (IntKind.wrap .i64 (v8+1)) _ h hQ
  ·refine Wp.exit (To.aZ (To.aZ (kt [] [] [] [] ?_)))
   cases h
   exact hQ
def fN(n:Nat)(a0:Ls)(a1:Bs):Option (Int) :=
 (ck n a0 a1 (List.length a0:Int) n 0).bind fun o1 =>
 (Sum.elim (fun o1=>some (-1)) (fun o1=>some o1)) o1
theorem nu(n:Nat)(a0:Ls)(a1:Bs)(r:Int)(h:fN n a0 a1=some r):bq Tryd.prog 36 [ls a0,.str a1] (vi r):=by
 unfold fN at h
 refine xo Tryd.f36 rfl fun F0 w0 _=>?_
 refine Wp.seq (rg [0,1] [] [(0,ls a0),(1,.str a1)] [] (To.aj (Wp.seq (Wp.seq (rg [0,1,7,8] [] [(0,ls a0),(1,.str a1),(7,vi (List.length a0:Int)),(8,vi 0)] [] (To.aj (Wp.block ?_)))))))
 obtain⟨o1,ho1,h⟩:=aG h
 refine kw [0,1,7,8] [] [(0,ls a0),(1,.str a1),(7,vi (List.length a0:Int)),(8,vi 0)] [] (Wp.dE (l9 n a0 a1 (List.length a0:Int) n 0 o1 ho1 ?_))
 rcases o1 with o1|o1
 ·replace h:=ij h
  refine To.cH (To.aj (Wp.seq (rg [4] [] [(4,vi (-1))] [] (To.aj (Wp.ret ?_)))))
  cases h
  exact To.done hΓ (by kernel_rfl)
 ·replace h:=il h
  refine To.bH (To.aX ?_)
  cases h
  exact To.done hΓ (by kernel_rfl)
def fh(n:Nat)(a0:Ls)(a1:Bs):Option (Bool) :=
 (fN n a0 a1).bind fun r1 =>
 some (decide (r1>=0))
theorem l7(n:Nat)(a0:Ls)(a1:Bs)(r:Bool)(h:fh n a0 a1=some r):bq Tryd.prog 29 [ls a0,.str a1] (vb r):=by
 unfold fh at h
 refine xo Tryd.f29 rfl fun F0 w0 _=>?_
 refine Wp.seq (rg [0,1] [] [(0,ls a0),(1,.str a1)] [] (To.aj (Wp.seq ?_)))
 obtain⟨r1,hr1,h⟩:=aG h
 refine rc [] 2 [4] [] [(4,vb (decide (r1>=0)))] [] (nu n a0 a1 _ hr1) (To.aj (Wp.ret ?_))
 cases h
 exact To.done hΓ (by kernel_rfl)
def iy(n:Nat)(a0:Ls)(a1:Bs):Option (Bool) :=
 (fh n a0 a1).bind fun r1 =>
 some r1
theorem gU(n:Nat)(a0:Ls)(a1:Bs)(r:Bool)(h:iy n a0 a1=some r):bq Tryd.prog 20 [ls a0,.str a1] (vb r):=by
 unfold iy at h
 refine xo Tryd.f20 rfl fun F0 w0 _=>?_
 refine Wp.seq (rg [0,1] [] [(0,ls a0),(1,.str a1)] [] (To.aj (Wp.seq ?_)))
 obtain⟨r1,hr1,h⟩:=aG h
 refine rc [] 2 [4] [] [(4,vb r1)] [] (l7 n a0 a1 _ hr1) (To.aj (Wp.ret ?_))
 cases h
 exact To.done hΓ (by kernel_rfl)
def iG(n:Nat)(v14:List (aF))(v15:Int)(b1:aD):Nat->Int->aC->Option (aC)
 |0,_,_=>none
 |k+1,v16,b3=>if(decide (v16<v15))=true then(if(decide (0<=v16/\v16<(List.length v14:Int)))=true then(if(decide ((List.length b3.ai+List.length ([((v14)[Int.toNat v16]?.getD aP).aS]:Ls))*(16+1)<=limit))=true then(iG n v14 v15 b1 k (IntKind.wrap .i64 (v16+1)) (aC.mk (b3.ai++([((v14)[Int.toNat v16]?.getD aP).aS]:Ls)) b3.aH)) else none) else none)
 else some b3
abbrev aK:af:=af.mk []
abbrev fE(l:List (MK×af)):D:=.dH none true (α:=af) aK ak l
abbrev jl(x0:List (aF))(x1:Int):=((x0)[Int.toNat x1]?.getD aP)
abbrev Aq(x0:Int):Nat×D:=(16,vi (IntKind.wrap .i64 (x0+1)))
abbrev qT(x0:List (aF))(x1:Int):=([(jl x0 x1).aS]:Ls)
theorem wI(n:Nat)(v14:List (aF))(v15:Int)(b1:aD)(k:Nat):∀(v16:Int)(b3:aC)(o:aC),iG n v14 v15 b1 k v16 b3=some o->To 63 F0 w0 [(1,.own 1 0),(2,.own 2 0),(3,.own 3 0)] [(1,25,aM b1),(2,51,[ls [],.val (.map none)]),(3,51,[.row 4180,.mp 11]),(11,49,[fE o.aH]),(4180,9,[bu o.ai])] (.exit 0) Q->WL Tryd.prog 63 F0 w0 [(1,.own 1 0),(2,.own 2 0),(3,.own 3 0),(14,dB v14),(15,vi v15),(16,vi v16)] [(1,25,aM b1),(2,51,[ls [],.val (.map none)]),(3,51,[.row 4180,.mp 11]),(11,49,[fE b3.aH]),(4180,9,[bu b3.ai])] (cI (cI (cB (cA (cB (cB (cF Tryd.f17))))))) Q:=by
 induction k with
 |zero=>intro v16 b3 o h;cases h
 |succ k ih =>
  intro v16 b3 o h hQ
  rw[iG] at h
  refine WL.round (Wp.seq (rg [1,2,3,14,15,16,17] [1,2,3,11,4180] [(1,.own 1 0),(2,.own 2 0),(3,.own 3 0),(14,dB v14),(15,vi v15),(16,vi v16),(17,vb (decide (v16<v15)))] [(1,25,aM b1),(2,51,[ls [],.val (.map none)]),(3,51,[.row 4180,.mp 11]),(11,49,[fE b3.aH]),(4180,9,[bu b3.ai])] (To.aj (Wp.seq (cn h (fun h=>?_) (fun h=>?_))))))
  ·refine Wp.skip (To.aj (Wp.seq (Wp.block (Wp.seq ?_))))
   obtain⟨hc2,h⟩:=bg h
   refine r0 [1,2,3,5,14,15,16] [1,2,3,5,11,4180] [(1,.own 1 0),(2,.own 2 0),(3,.own 3 0),(5,.own 5 0),(14,dB v14),(15,vi v15),(16,vi v16)] [(1,25,aM b1),(2,51,[ls [],.val (.map none)]),(3,51,[.row 4180,.mp 11]),(5,35,(au (jl v14 v16))),(11,49,[fE b3.aH]),(4180,9,[bu b3.ai])] (ax.cons hc2 ax.nil) (To.aj ?_)
   obtain⟨hc1,h⟩:=bg h
   refine rr [] [(4,ls ([(jl v14 v16).aS])),(5,ls (b3.ai++(qT v14 v16)))] [] [1,2,3,14,15,16] [1,2,3,11,25] [(1,.own 1 0),(2,.own 2 0),(3,.own 3 0),(14,dB v14),(15,vi v15),(16,vi v16)] [(1,25,aM b1),(2,51,[ls [],.val (.map none)]),(3,51,[.row 25,.mp 11]),(11,49,[fE b3.aH]),(25,9,[bu (b3.ai++(qT v14 v16))])] [(iC 1 [.str ((jl v14 v16).aS)] 1 (ls ([(jl v14 v16).aS]))/\bP (ls ([(jl v14 v16).aS]))),_,(oL [] aO b3.ai (List.flatMap aO (qT v14 v16)) (List.length (qT v14 v16)) (ls (b3.ai++(qT v14 v16)))/\bP (ls (b3.ai++(qT v14 v16))))] (ax.cons (nD (by kernel_rfl) rfl (by kernel_rfl) (bp _)) (ax.cons hc1 (ax.cons (oQ rfl rfl (bp _)) ax.nil))) (To.bT (To.aj (rg [1,2,3,14,15,16] [1,2,3,11,25] [(1,.own 1 0),(2,.own 2 0),(3,.own 3 0),(14,dB v14),(15,vi v15),(Aq v16)] [(1,25,aM b1),(2,51,[ls [],.val (.map none)]),(3,51,[.row 25,.mp 11]),(11,49,[fE b3.aH]),(25,9,[bu (b3.ai++(qT v14 v16))])] (nt [1,2,3,14,15,16] [1,2,3,11,25] [(25,4180)] [1,2,3,14,15,16] [1,2,3,11,4180] [(1,.own 1 0),(2,.own 2 0),(3,.own 3 0),(14,dB v14),(15,vi v15),(Aq v16)] [(1,25,aM b1),(2,51,[ls [],.val (.map none)]),(3,51,[.row 4180,.mp 11]),(11,49,[fE b3.aH]),(4180,9,[bu (b3.ai++(qT v14 v16))])] (To.again ?_)))))
   exact ih (IntKind.wrap .i64 (v16+1)) (aC.mk (b3.ai++(qT v14 v16)) b3.aH) _ h hQ
  ·refine Wp.exit (To.aZ (To.aZ (kt [1,2,3] [1,2,3,11,4180] [(1,.own 1 0),(2,.own 2 0),(3,.own 3 0)] [(1,25,aM b1),(2,51,[ls [],.val (.map none)]),(3,51,[.row 4180,.mp 11]),(11,49,[fE b3.aH]),(4180,9,[bu b3.ai])] ?_)))
   cases h
   exact hQ
def lS(n:Nat)(v8:Ls)(v38:List (aL))(v39:Int)(v40:Int)(b7:aF)(b1000001:aC):Option ((Ls)) :=
 if(decide (0<=v40/\v40<(List.length v38:Int)))=true then((iy n b1000001.ai (((v38)[Int.toNat v40]?.getD (aL.mk [] 0 false false)).bC)).bind fun r3 =>
 if r3=true then(if(decide ((List.length v8+List.length ([((v38)[Int.toNat v40]?.getD (aL.mk [] 0 false false)).bC]:Ls))*(16+1)<=limit))=true then(some (v8++([((v38)[Int.toNat v40]?.getD (aL.mk [] 0 false false)).bC]:Ls))) else none)
 else some v8) else none
abbrev i7(x0:aC):Nat×Nat×List D:=(1000001,51,[ls x0.ai,.mp 1000002])
abbrev mM(x0:List (aL))(x1:Int):=((x0)[Int.toNat x1]?.getD zx4)
abbrev jW(x0:aC):Nat×Nat×List D:=(1000002,49,[fE x0.aH])
abbrev vh(x0:List (aL))(x1:Int):=([(mM x0 x1).bC]:Ls)
abbrev DR(x0:List (aL))(x1:Int):Nat×Nat×List D:=(10,46,[.str ((mM x0 x1).bC),vi ((mM x0 x1).qy),vb ((mM x0 x1).dX),vb ((mM x0 x1).fL)])
theorem xu(n:Nat)(v8:Ls)(v38:List (aL))(v39:Int)(v40:Int)(b7:aF)(b1000001:aC)(o:(Ls))(h:lS n v8 v38 v39 v40 b7 b1000001=some o)(hQ:To 63 F0 w0 [(3,.own 1000001 0),(7,.own 7 0),(8,.row 1008),(38,rs8 v38),(39,vi v39),(40,vi v40)] [(7,35,(au b7)),(1008,9,[bu o]),(1000000,51,[ls [],.val (.map none)]),(i7 b1000001),(jW b1000001)] .normal Q):Wp Tryd.prog 63 F0 w0 [(3,.own 1000001 0),(7,.own 7 0),(8,.row 1008),(38,rs8 v38),(39,vi v39),(40,vi v40)] [(7,35,(au b7)),(1008,9,[bu v8]),(1000000,51,[ls [],.val (.map none)]),(i7 b1000001),(jW b1000001)] (cA (cB (cB (cI (cI (cB (cA (cB (cI (cRB (cI (cB (cA (cB (cB (cB (cB (cF Tryd.f17)))))))))))))))))) Q:=by
 unfold lS at h
 refine Wp.block (Wp.seq ?_)
 obtain⟨hc5,h⟩:=bg h
 refine r0 [3,7,8,10,38,39,40] [7,10,1008,1000000,1000001,1000002] [(3,.own 1000001 0),(7,.own 7 0),(8,.row 1008),(10,.own 10 0),(38,rs8 v38),(39,vi v39),(40,vi v40)] [(7,35,(au b7)),(DR v38 v40),(1008,9,[bu v8]),(1000000,51,[ls [],.val (.map none)]),(i7 b1000001),(jW b1000001)] (ax.cons hc5 ax.nil) (To.aj (Wp.seq ?_))
 obtain⟨r3,hr3,h⟩:=aG h
 refine rc [] 4 [3,7,8,10,38,39,40,48] [7,10,1008,1000000,1000001,1000002] [(3,.own 1000001 0),(7,.own 7 0),(8,.row 1008),(10,.own 10 0),(38,rs8 v38),(39,vi v39),(40,vi v40),(48,vb r3)] [(7,35,(au b7)),(DR v38 v40),(1008,9,[bu v8]),(1000000,51,[ls [],.val (.map none)]),(i7 b1000001),(jW b1000001)] (gU n b1000001.ai ((mM v38 v40).bC) _ hr3) (To.aj (cn h (fun h=>?_) (fun h=>?_)))
 ·obtain⟨hc4,h⟩:=bg h
  refine rr [] [(3,ls ([(mM v38 v40).bC])),(4,ls (v8++(vh v38 v40)))] [] [3,7,8,38,39,40] [7,53,1000000,1000001,1000002] [(3,.own 1000001 0),(7,.own 7 0),(8,.row 53),(38,rs8 v38),(39,vi v39),(40,vi v40)] [(7,35,(au b7)),(53,9,[bu (v8++(vh v38 v40))]),(1000000,51,[ls [],.val (.map none)]),(i7 b1000001),(jW b1000001)] [(iC 1 [.str ((mM v38 v40).bC)] 1 (ls ([(mM v38 v40).bC]))/\bP (ls ([(mM v38 v40).bC]))),_,(oL [] aO v8 (List.flatMap aO (vh v38 v40)) (List.length (vh v38 v40)) (ls (v8++(vh v38 v40)))/\bP (ls (v8++(vh v38 v40))))] (ax.cons (nD (by kernel_rfl) rfl (by kernel_rfl) (bp _)) (ax.cons hc4 (ax.cons (oQ rfl rfl (bp _)) ax.nil))) (To.bT (nt [3,7,8,38,39,40] [7,53,1000000,1000001,1000002] [(53,1008)] [3,7,8,38,39,40] [7,1008,1000000,1000001,1000002] [(3,.own 1000001 0),(7,.own 7 0),(8,.row 1008),(38,rs8 v38),(39,vi v39),(40,vi v40)] [(7,35,(au b7)),(1008,9,[bu (v8++(vh v38 v40))]),(1000000,51,[ls [],.val (.map none)]),(i7 b1000001),(jW b1000001)] ?_))
  cases h
  exact hQ
 ·refine Wp.skip (To.bT (kt [3,7,8,38,39,40] [7,1008,1000000,1000001,1000002] [(3,.own 1000001 0),(7,.own 7 0),(8,.row 1008),(38,rs8 v38),(39,vi v39),(40,vi v40)] [(7,35,(au b7)),(1008,9,[bu v8]),(1000000,51,[ls [],.val (.map none)]),(i7 b1000001),(jW b1000001)] ?_))
  cases h
  exact hQ
def eQ(n:Nat)(v38:List (aL))(v39:Int)(b7:aF)(b1000001:aC):Nat->(Ls)->Int->Option ((Ls))
 |0,_,_=>none
 |k+1,v8,v40=>if(decide (v40<v39))=true then((lS n v8 v38 v39 v40 b7 b1000001).bind fun o3 =>
 eQ n v38 v39 b7 b1000001 k o3 (IntKind.wrap .i64 (v40+1)))
 else some v8
theorem wS(n:Nat)(v38:List (aL))(v39:Int)(b7:aF)(b1000001:aC)(k:Nat):∀(v8:Ls)(v40:Int)(o:(Ls)),eQ n v38 v39 b7 b1000001 k v8 v40=some o->To 63 F0 w0 [(3,.own 1000001 0),(7,.own 7 0),(8,.row 1008)] [(7,35,(au b7)),(1008,9,[bu o]),(1000000,51,[ls [],.val (.map none)]),(i7 b1000001),(jW b1000001)] (.exit 4) Q->WL Tryd.prog 63 F0 w0 [(3,.own 1000001 0),(7,.own 7 0),(8,.row 1008),(38,rs8 v38),(39,vi v39),(40,vi v40)] [(7,35,(au b7)),(1008,9,[bu v8]),(1000000,51,[ls [],.val (.map none)]),(i7 b1000001),(jW b1000001)] (cI (cI (cB (cA (cB (cI (cRB (cI (cB (cA (cB (cB (cB (cB (cF Tryd.f17))))))))))))))) Q:=by
 induction k with
 |zero=>intro v8 v40 o h;cases h
 |succ k ih =>
  intro v8 v40 o h hQ
  rw[eQ] at h
  refine WL.round (Wp.seq (rg [3,7,8,38,39,40,41] [7,1008,1000000,1000001,1000002] [(3,.own 1000001 0),(7,.own 7 0),(8,.row 1008),(38,rs8 v38),(39,vi v39),(40,vi v40),(41,vb (decide (v40<v39)))] [(7,35,(au b7)),(1008,9,[bu v8]),(1000000,51,[ls [],.val (.map none)]),(i7 b1000001),(jW b1000001)] (To.aj (Wp.seq (cn h (fun h=>?_) (fun h=>?_))))))
  ·refine Wp.skip (To.aj (Wp.seq ?_))
   obtain⟨o3,ho3,h⟩:=aG h
   refine kw [3,7,8,38,39,40] [7,1008,1000000,1000001,1000002] [(3,.own 1000001 0),(7,.own 7 0),(8,.row 1008),(38,rs8 v38),(39,vi v39),(40,vi v40)] [(7,35,(au b7)),(1008,9,[bu v8]),(1000000,51,[ls [],.val (.map none)]),(i7 b1000001),(jW b1000001)] (xu n v8 v38 v39 v40 b7 b1000001 o3 ho3 (To.aj (rg [3,7,8,38,39,40] [7,1008,1000000,1000001,1000002] [(3,.own 1000001 0),(7,.own 7 0),(8,.row 1008),(38,rs8 v38),(39,vi v39),(40,vi (IntKind.wrap .i64 (v40+1)))] [(7,35,(au b7)),(1008,9,[bu o3]),(1000000,51,[ls [],.val (.map none)]),(i7 b1000001),(jW b1000001)] (kt [3,7,8,38,39,40] [7,1008,1000000,1000001,1000002] [(3,.own 1000001 0),(7,.own 7 0),(8,.row 1008),(38,rs8 v38),(39,vi v39),(40,vi (IntKind.wrap .i64 (v40+1)))] [(7,35,(au b7)),(1008,9,[bu o3]),(1000000,51,[ls [],.val (.map none)]),(i7 b1000001),(jW b1000001)] (To.again ?_)))))
   exact ih o3 (IntKind.wrap .i64 (v40+1)) _ h hQ
  ·refine Wp.exit (To.aZ (To.aZ (kt [3,7,8] [7,1008,1000000,1000001,1000002] [(3,.own 1000001 0),(7,.own 7 0),(8,.row 1008)] [(7,35,(au b7)),(1008,9,[bu v8]),(1000000,51,[ls [],.val (.map none)]),(i7 b1000001),(jW b1000001)] ?_)))
   cases h
   exact hQ
def eP(n:Nat):List (Int×aF)->aC->Option (aC)
 |[],b1000001=>some b1000001
 |x::r,b1000001=>(eQ n x.2.aV (List.length x.2.aV:Int) x.2 b1000001 n ([]:Ls) 0).bind fun o3 =>
 (fy n o3).bind fun r4 =>
 eP n r (aC.mk b1000001.ai (eU b1000001.aH (.inl x.2.aS) (af.mk r4)))
theorem wJ(n:Nat)(x:(Int×aF))(r:List (Int×aF))(b1000001:aC)(o:aC)(h:eP n (x::r) b1000001=some o){F0:Fz}{w0:Pt Tryd.prog}{Lx:ay}:Wp Tryd.prog 63 F0 w0 [(3,.own 1000001 0),(7,.own 7 0)] [(7,35,(au x.2)),(1000000,51,[ls [],.val (.map none)]),(i7 b1000001),(jW b1000001)] (cRB (cI (cB (cA (cB (cB (cB (cB (cF Tryd.f17))))))))) (jO F0 w0 (fun(s:aC)=>eP n r s=some o) (fun(s:aC)=>[(1000000,51,[ls [],.val (.map none)]),(i7 s),(1000002,49,[fE s.aH])]) none Lx):=by
 rw[eP] at h
 refine Wp.block (Wp.seq (rg [3,7,8] [7,1000000,1000001,1000002] [(3,.own 1000001 0),(7,.own 7 0),(8,.val (.slice none 0 0))] [(7,35,(au x.2)),(1000000,51,[ls [],.val (.map none)]),(i7 b1000001),(jW b1000001)] (To.aj (Wp.seq (Wp.seq (rg [3,7,8,38,39,40] [7,1000000,1000001,1000002] [(3,.own 1000001 0),(7,.own 7 0),(8,.val (.slice none 0 0)),(38,rs8 x.2.aV),(39,vi (List.length x.2.aV:Int)),(40,vi 0)] [(7,35,(au x.2)),(1000000,51,[ls [],.val (.map none)]),(i7 b1000001),(jW b1000001)] (To.aj (Wp.block ?_))))))))
 obtain⟨o3,ho3,h⟩:=aG h
 refine kw [3,7,8,38,39,40] [7,1000000,1000001,1000002] [(3,.own 1000001 0),(7,.own 7 0),(8,.val (.slice none 0 0)),(38,rs8 x.2.aV),(39,vi (List.length x.2.aV:Int)),(40,vi 0)] [(7,35,(au x.2)),(1000000,51,[ls [],.val (.map none)]),(i7 b1000001),(jW b1000001)] (Wp.pre (St.qo (t:=8) (k:=1008) (e:=9) (K':=[(3,.own 1000001 0),(7,.own 7 0),(8,.row 1008),(38,rs8 x.2.aV),(39,vi (List.length x.2.aV:Int)),(40,vi 0)]) (bp _) (by decide) (by kernel_rfl) (by kernel_rfl)) (kw [3,7,8,38,39,40] [7,1008,1000000,1000001,1000002] [(3,.own 1000001 0),(7,.own 7 0),(8,.row 1008),(38,rs8 x.2.aV),(39,vi (List.length x.2.aV:Int)),(40,vi 0)] [(7,35,(au x.2)),(1008,9,[bu []]),(1000000,51,[ls [],.val (.map none)]),(i7 b1000001),(jW b1000001)] (Wp.dE (wS n x.2.aV (List.length x.2.aV:Int) x.2 b1000001 n ([]:Ls) 0 o3 ho3 (To.cH (To.aj ?_))))))
 obtain⟨r4,hr4,h⟩:=aG h
 refine Wp.EY hm hΓ [(5,[1008])] [(5,ls r4),(7,fE (eU b1000001.aH (.inl x.2.aS) (af.mk r4)))] [] [3,7,8,55,56,57,58,59,60,61] [7,1008,1000000,1000001,1000002] [3] [1000000,1000001,1000002] (K':=[(3,.own 1000001 0)]) (L':=[(1000000,51,[ls [],.val (.map none)]),(i7 b1000001),(1000002,49,[fE (eU b1000001.aH (.inl x.2.aS) (af.mk r4))])]) (ob:=[(true=true->CX Tryd.prog 23 [ls o3] (ls r4)),(∃l':List (MK×af),(fE (eU b1000001.aH (.inl x.2.aS) (af.mk r4)):D)=fE l'/\qC ak b1000001.aH (.inl x.2.aS) [ls r4] l')]) (by kernel_rfl) (by kernel_rfl) (ax.cons (fun _=>cx (kU n o3 _ hr4)) (ax.cons (⟨_,rfl,(af.mk r4),bf.of_eq (by kernel_rfl),rfl⟩) ax.nil)) (To.bT (kt [3] [1000000,1000001,1000002] [(3,.own 1000001 0)] [(1000000,51,[ls [],.val (.map none)]),(i7 b1000001),(1000002,49,[fE (eU b1000001.aH (.inl x.2.aS) (af.mk r4))])] ?_))
 exact To.round (aC.mk b1000001.ai (eU b1000001.aH (.inl x.2.aS) (af.mk r4))) [1000000,1000001,1000002] h (by kernel_rfl)
def dQ(n:Nat)(a0:aD):Option (aC) :=
 (iG n a0.av (List.length a0.av:Int) a0 n 0 (aC.mk [] ([]:List (MK×af)))).bind fun o1 =>
 (fy n o1.ai).bind fun r2 =>
 (oq n a0.av).bind fun xs3 =>
 (eP n xs3 (aC.mk r2 o1.aH)).bind fun o4 =>
 some o4
theorem ko(n:Nat)(a0:aD)(r:aC)(h:dQ n a0=some r):bq Tryd.prog 17 [.agg (aM a0)] (.agg [ls r.ai,.aI none true (α:=af) aK ak r.aH]):=by
 unfold dQ at h
 refine vY (fn:=Tryd.f17) (by kernel_rfl) rfl (by kernel_rfl) (Nat.le_of_ble_eq_true (by kernel_rfl)) fun F0 w0 _=>?_
 refine kw [0] [] [(0,.agg (aM a0))] [] (Wp.seq (rg [1,2] [1,2] [(1,.own 1 0),(2,.own 2 0)] [(1,25,aM a0),(2,51,[.val (.slice none 0 0),.val (.map none)])] (To.aj (Wp.seq (rr [] [(0,fE [])] [] [1,2,3] [1,2,3,11] [(1,.own 1 0),(2,.own 2 0),(3,.own 3 0)] [(1,25,aM a0),(2,51,[.val (.slice none 0 0),.val (.map none)]),(3,51,[.val (.slice none 0 0),.mp 11]),(11,49,[fE []])] [(pP true ak)] (ax.cons (⟨fun _=>rfl,fun h=>by cases h⟩) ax.nil) ?_)))))
 refine To.aj (Wp.seq (Wp.seq (rg [1,2,3,14,15,16] [1,2,3,11] [(1,.own 1 0),(2,.own 2 0),(3,.own 3 0),(14,dB a0.av),(15,vi (ex5 a0)),(16,vi 0)] [(1,25,aM a0),(2,51,[.val (.slice none 0 0),.val (.map none)]),(3,51,[.val (.slice none 0 0),.mp 11]),(11,49,[fE []])] (To.aj (Wp.block ?_)))))
 obtain⟨o1,ho1,h⟩:=aG h
 refine kw [1,2,3,14,15,16] [1,2,3,11] [(1,.own 1 0),(2,.own 2 0),(3,.own 3 0),(14,dB a0.av),(15,vi (ex5 a0)),(16,vi 0)] [(1,25,aM a0),(2,51,[.val (.slice none 0 0),.val (.map none)]),(3,51,[.val (.slice none 0 0),.mp 11]),(11,49,[fE []])] (Wp.pre (St.zZ 3 0 4180 9 (bp _) (by decide) (by kernel_rfl) (L':=[(1,25,aM a0),(2,51,[.val (.slice none 0 0),.val (.map none)]),(3,51,[.row 4180,.mp 11]),(11,49,[fE []])]) (by kernel_rfl)) (kw [1,2,3,14,15,16] [1,2,3,11,4180] [(1,.own 1 0),(2,.own 2 0),(3,.own 3 0),(14,dB a0.av),(15,vi (ex5 a0)),(16,vi 0)] [(1,25,aM a0),(2,51,[.val (.slice none 0 0),.val (.map none)]),(3,51,[.row 4180,.mp 11]),(11,49,[fE []]),(4180,9,[bu []])] (Wp.weak (K':=[(1,.own 1 0),(2,.own 2 0),(3,.own 3 0),(14,dB a0.av),(15,vi (ex5 a0)),(16,vi 0)]) (L':=[(1,25,aM a0),(2,51,[ls [],.val (.map none)]),(3,51,[.row 4180,.mp 11]),(11,49,[fE []]),(4180,9,[bu []])]) (.cons (.refl _) (.cons (.refl _) (.cons (.refl _) (.cons (.refl _) (.cons (.refl _) (.cons (.refl _) .nil)))))) (.cons (.cons (.refl _) (.cons (.refl _) (.cons (.refl _) (.cons (.refl _) .nil)))) (.cons (.cons (.zero _ _) (.cons (.refl _) .nil)) (.cons (.cons (.refl _) (.cons (.refl _) .nil)) (.cons (.cons (.refl _) .nil) (.cons (.cons (.refl _) .nil) .nil))))) (Wp.dE (wI n a0.av (ex5 a0) a0 n 0 (aC.mk [] ([]:List (MK×af))) o1 ho1 (To.cH (To.aj (Wp.seq ?_))))))))
 obtain⟨r2,hr2,h⟩:=aG h
 refine rc [(2,[4180])] 2 [1,2,3] [1,2,3,11] [(1,.own 1 0),(2,.own 2 0),(3,.own 3 0)] [(1,25,aM a0),(2,51,[ls [],.val (.map none)]),(3,51,[ls r2,.mp 11]),(11,49,[fE o1.aH])] (kU n o1.ai _ hr2) (To.aj (Wp.seq (Wp.seq (rr [] [(2,.fn 33 [.el [dB a0.av]])] [] [2,3,34] [2,3,11] [(2,.own 2 0),(3,.own 3 0),(34,.fn 33 [.el [dB a0.av]])] [(2,51,[ls [],.val (.map none)]),(3,51,[ls r2,.mp 11]),(11,49,[fE o1.aH])] [(true=true->CX Tryd.prog 24 [dB a0.av] (.fn 33 [.el [dB a0.av]]))] (ax.cons (fun _=>cx (FM a0.av)) ax.nil) (To.aj (Wp.block ?_))))))
 obtain⟨xs3,hxs3,h⟩:=aG h
 obtain⟨o4,ho4,h⟩:=aG h
 refine kw [2,3,34] [2,3,11] [(2,.own 2 0),(3,.own 3 0),(34,.fn 33 [.el [dB a0.av]])] [(2,51,[ls [],.val (.map none)]),(3,51,[ls r2,.mp 11]),(11,49,[fE o1.aH])] (Wp.Fp (σ:=aC) (encs:=po) (xs:=xs3) ⟨[(1000000,2),(1000001,3),(1000002,11)],[(1000000,2),(1000001,3),(1000002,11)],[],[(1000000,51,[ls [],.val (.map none)]),(1000001,51,[ls r2,.mp 1000002]),(1000002,49,[fE o1.aH])],.hole,[(1000000,51,[ls [],.val (.map none)]),(1000001,51,[ls o4.ai,.mp 1000002]),(1000002,49,[fE o4.aH])]⟩ (fun r (s:aC)=>eP n r s=some o4) (fun(s:aC)=>[(1000000,51,[ls [],.val (.map none)]),(1000001,51,[ls s.ai,.mp 1000002]),(1000002,49,[fE s.aH])]) none [3] [2,3] [(3,.own 1000001 0)] [(2,.own 2 0),(3,.own 3 0)] [(2,51,[ls [],.val (.map none)]),(3,51,[ls o4.ai,.mp 11]),(11,49,[fE o4.aH])] (aC.mk r2 o1.aH) (fun x (s:aC)=>[(3,.own 1000001 0),(7,.own 7 0)]) (fun x (s:aC)=>[(7,35,(au x.2)),(1000000,51,[ls [],.val (.map none)]),(1000001,51,[ls s.ai,.mp 1000002]),(1000002,49,[fE s.aH])]) rfl (by kernel_rfl) (by kernel_rfl) (DJ n a0.av xs3 hxs3) (by kernel_rfl) (by kernel_rfl) (fun s=>by kernel_rfl) (by kernel_rfl) (by kernel_rfl) (by kernel_rfl) ho4 (fun F1 w1 a w h=>h) (fun x=>rfl) (by decide) (by decide) (fun x=>by kernel_rfl) (by kernel_rfl) (by kernel_rfl) (fun x s=>by kernel_rfl) (fun s h=>⟨rfl,by rw[eP] at h;cases h;rfl⟩) (by kernel_rfl) (by kernel_rfl) (fun x r s h F1 w1=>?_) (fun x r s h F1 w1=>wJ n x r s _ h) (fun F1 w1 hA=>?_))
 ·refine rg [3,7] [7,1000000,1000001,1000002] [(3,.own 1000001 0),(7,.own 7 0)] [(7,35,(au x.2)),(1000000,51,[ls [],.val (.map none)]),(1000001,51,[ls s.ai,.mp 1000002]),(1000002,49,[fE s.aH])] (kt [3,7] [7,1000000,1000001,1000002] [(3,.own 1000001 0),(7,.own 7 0)] [(7,35,(au x.2)),(1000000,51,[ls [],.val (.map none)]),(1000001,51,[ls s.ai,.mp 1000002]),(1000002,49,[fE s.aH])] ?_)
  exact fun a w h=>⟨rfl,h⟩
 ·refine To.bT (To.aj (Wp.seq (rg [2] [2,11] [(2,.own 2 0)] [(2,51,[ls o4.ai,.mp 11]),(11,49,[fE o4.aH])] (To.aj (Wp.ret (To.pre (St.wR 11 (t:=49) (kk:=none) (ag:=true) (d:=aK) (enc:=ak) (l:=o4.aH) (by kernel_rfl) (K':=[(2,.own 2 0)]) (L':=[(2,51,[ls o4.ai,.aI none true (α:=af) aK ak o4.aH])]) (by kernel_rfl) (by kernel_rfl)) ?_))))))
  cases h
  first|exact To.Be hΓ hA (by kernel_rfl) (by kernel_rfl)|exact To.yE hΓ (by kernel_rfl)
def fV(n:Nat)(v4:Ls)(v5:Bool)(v7:Bs)(v14:Ls)(v15:Int)(v16:Int)(v27:Ls)(v28:Int)(b3:aC):Nat->Int->Option (Sum (Unit) (Unit))
 |0,_=>none
 |k+1,v29=>if(decide (v29<v28))=true then(if(decide (0<=v29/\v29<(List.length v27:Int)))=true then((iy n v4 ((v27)[Int.toNat v29]?.getD [])).bind fun r3 =>
 if(!r3)=true then(some (.inl ()))
 else(fV n v4 v5 v7 v14 v15 v16 v27 v28 b3 k (IntKind.wrap .i64 (v29+1)))) else none)
 else(some (.inr ()))
abbrev dM(l:Ls):D:=.aR true (α:=Bs) [] aO l
abbrev cq(x0:Ls)(x1:Int):=((x0)[Int.toNat x1]?.getD [])
theorem um(n:Nat)(v4:Ls)(v5:Bool)(v7:Bs)(v14:Ls)(v15:Int)(v16:Int)(v27:Ls)(v28:Int)(b3:aC)(k:Nat):∀(v29:Int)(o:Sum (Unit) (Unit)),fV n v4 v5 v7 v14 v15 v16 v27 v28 b3 k v29=some o->(Sum.elim (fun s=>To 44 F0 w0 [(3,.own 3 0),(4,.row 1004),(5,vb v5),(14,ls v14),(15,vi v15),(16,vi v16)] [(3,51,[ls b3.ai,.aI none true (α:=af) aK ak b3.aH]),(1004,9,[dM v4])] (.exit 3) Q) (fun s=>To 44 F0 w0 [(3,.own 3 0),(4,.row 1004),(7,.str v7)] [(3,51,[ls b3.ai,.aI none true (α:=af) aK ak b3.aH]),(1004,9,[dM v4])] (.exit 4) Q)) o->WL Tryd.prog 44 F0 w0 [(3,.own 3 0),(4,.row 1004),(5,vb v5),(7,.str v7),(14,ls v14),(15,vi v15),(16,vi v16),(27,ls v27),(28,vi v28),(29,vi v29)] [(3,51,[ls b3.ai,.aI none true (α:=af) aK ak b3.aH]),(1004,9,[dM v4])] (cI (cI (cB (cA (cB (cB (cI (cA (cB (cB (cI (cI (cB (cB (cB (cI (cI (cB (cI (cI (cB (cA (cB (cB (cB (cF Tryd.f7)))))))))))))))))))))))))) Q:=by
 induction k with
 |zero=>intro v29 o h;cases h
 |succ k ih =>
  intro v29 o h hQ
  rw[fV] at h
  refine WL.round (Wp.seq (rg [3,4,5,7,14,15,16,27,28,29,30] [3,1004] [(3,.own 3 0),(4,.row 1004),(5,vb v5),(7,.str v7),(14,ls v14),(15,vi v15),(16,vi v16),(27,ls v27),(28,vi v28),(29,vi v29),(30,vb (decide (v29<v28)))] [(3,51,[ls b3.ai,.aI none true (α:=af) aK ak b3.aH]),(1004,9,[dM v4])] (To.aj (Wp.seq (cn h (fun h=>?_) (fun h=>?_))))))
  ·refine Wp.skip (To.aj (Wp.seq (Wp.block (Wp.seq ?_))))
   obtain⟨hc4,h⟩:=bg h
   refine r0 [3,4,5,7,9,14,15,16,27,28,29] [3,1004] [(3,.own 3 0),(4,.row 1004),(5,vb v5),(7,.str v7),(9,.str (cq v27 v29)),(14,ls v14),(15,vi v15),(16,vi v16),(27,ls v27),(28,vi v28),(29,vi v29)] [(3,51,[ls b3.ai,.aI none true (α:=af) aK ak b3.aH]),(1004,9,[dM v4])] (ax.cons hc4 ax.nil) (To.aj (Wp.seq ?_))
   obtain⟨r3,hr3,h⟩:=aG h
   refine rc [] 2 [3,4,5,7,14,15,16,27,28,29,36] [3,1004] [(3,.own 3 0),(4,.row 1004),(5,vb v5),(7,.str v7),(14,ls v14),(15,vi v15),(16,vi v16),(27,ls v27),(28,vi v28),(29,vi v29),(36,vb (!r3))] [(3,51,[ls b3.ai,.aI none true (α:=af) aK ak b3.aH]),(1004,9,[dM v4])] (gU n v4 (cq v27 v29) _ hr3) (To.aj (cn h (fun h=>?_) (fun h=>?_)))
   ·refine Wp.exit (To.vo (by decide) (To.aZ (To.aZ (kt [3,4,5,14,15,16] [3,1004] [(3,.own 3 0),(4,.row 1004),(5,vb v5),(14,ls v14),(15,vi v15),(16,vi v16)] [(3,51,[ls b3.ai,.aI none true (α:=af) aK ak b3.aH]),(1004,9,[dM v4])] ?_))))
    cases h
    exact hQ
   ·refine Wp.skip (To.bT (To.aj (rg [3,4,5,7,14,15,16,27,28,29] [3,1004] [(3,.own 3 0),(4,.row 1004),(5,vb v5),(7,.str v7),(14,ls v14),(15,vi v15),(16,vi v16),(27,ls v27),(28,vi v28),(29,vi (IntKind.wrap .i64 (v29+1)))] [(3,51,[ls b3.ai,.aI none true (α:=af) aK ak b3.aH]),(1004,9,[dM v4])] (kt [3,4,5,7,14,15,16,27,28,29] [3,1004] [(3,.own 3 0),(4,.row 1004),(5,vb v5),(7,.str v7),(14,ls v14),(15,vi v15),(16,vi v16),(27,ls v27),(28,vi v28),(29,vi (IntKind.wrap .i64 (v29+1)))] [(3,51,[ls b3.ai,.aI none true (α:=af) aK ak b3.aH]),(1004,9,[dM v4])] (To.again ?_)))))
    exact ih (IntKind.wrap .i64 (v29+1)) _ h hQ
  ·refine Wp.exit (To.aZ (To.aZ (kt [3,4,7] [3,1004] [(3,.own 3 0),(4,.row 1004),(7,.str v7)] [(3,51,[ls b3.ai,.aI none true (α:=af) aK ak b3.aH]),(1004,9,[dM v4])] ?_)))
   cases h
   exact hQ
def jH(n:Nat)(v4:Ls)(v5:Bool)(v14:Ls)(v15:Int)(v16:Int)(b3:aC):Option (Sum ((Ls)×Bool) ((Ls)×Bool)) :=
 if(decide (0<=v16/\v16<(List.length v14:Int)))=true then((iy n v4 ((v14)[Int.toNat v16]?.getD [])).bind fun r2 =>
 if r2=true then(some (.inl (v4,v5)))
 else((fV n v4 v5 ((v14)[Int.toNat v16]?.getD []) v14 v15 v16 (((bn b3.aH (.inl ((v14)[Int.toNat v16]?.getD []))).getD (af.mk [])).f_l) (List.length (((bn b3.aH (.inl ((v14)[Int.toNat v16]?.getD []))).getD (af.mk [])).f_l):Int) b3 n 0).bind fun o3 =>
 (Sum.elim (fun o3=>some (.inl (v4,v5))) (fun o3=>if(decide ((List.length v4+List.length ([((v14)[Int.toNat v16]?.getD [])]:Ls))*(16+1)<=limit))=true then(some (.inr ((v4++([((v14)[Int.toNat v16]?.getD [])]:Ls)),true))) else none)) o3)) else none
abbrev nz(x0:Ls)(x1:Int):=([(cq x0 x1)]:Ls)
abbrev lD(x0:aC)(x1:Ls)(x2:Int):=(((bn x0.aH (.inl (cq x1 x2))).getD aK).f_l)
abbrev DU(x0:Ls)(x1:Int):=(iC 1 [.str (cq x0 x1)] 1 (ls ([(cq x0 x1)]))/\bP (ls ([(cq x0 x1)])))
abbrev Ee(x0:Ls)(x1:Ls)(x2:Int):=(oL [] aO x0 (List.flatMap aO (nz x1 x2)) (List.length (nz x1 x2)) (ls (x0++(nz x1 x2)))/\bP (ls (x0++(nz x1 x2))))
theorem tN(n:Nat)(v4:Ls)(v5:Bool)(v14:Ls)(v15:Int)(v16:Int)(b3:aC)(o:Sum ((Ls)×Bool) ((Ls)×Bool))(h:jH n v4 v5 v14 v15 v16 b3=some o)(hQ:(Sum.elim (fun s=>To 44 F0 w0 [(3,.own 3 0),(4,.row 1004),(5,vb s.2),(14,ls v14),(15,vi v15),(16,vi v16)] [(3,51,[ls b3.ai,.aI none true (α:=af) aK ak b3.aH]),(1004,9,[dM s.1])] .normal Q) (fun s=>To 44 F0 w0 [(3,.own 3 0),(4,.row 1004),(5,vb s.2)] [(3,51,[ls b3.ai,.aI none true (α:=af) aK ak b3.aH]),(1004,9,[dM s.1])] (.exit 2) Q)) o):Wp Tryd.prog 44 F0 w0 [(3,.own 3 0),(4,.row 1004),(5,vb v5),(14,ls v14),(15,vi v15),(16,vi v16)] [(3,51,[ls b3.ai,.aI none true (α:=af) aK ak b3.aH]),(1004,9,[dM v4])] (cA (cB (cB (cI (cI (cB (cB (cB (cI (cI (cB (cI (cI (cB (cA (cB (cB (cB (cF Tryd.f7))))))))))))))))))) Q:=by
 unfold jH at h
 refine Wp.block (Wp.seq ?_)
 obtain⟨hc5,h⟩:=bg h
 refine r0 [3,4,5,7,14,15,16] [3,1004] [(3,.own 3 0),(4,.row 1004),(5,vb v5),(7,.str (cq v14 v16)),(14,ls v14),(15,vi v15),(16,vi v16)] [(3,51,[ls b3.ai,.aI none true (α:=af) aK ak b3.aH]),(1004,9,[dM v4])] (ax.cons hc5 ax.nil) (To.aj (Wp.seq (Wp.seq ?_)))
 obtain⟨r2,hr2,h⟩:=aG h
 refine rc [] 2 [3,4,5,7,14,15,16,22] [3,1004] [(3,.own 3 0),(4,.row 1004),(5,vb v5),(7,.str (cq v14 v16)),(14,ls v14),(15,vi v15),(16,vi v16),(22,vb r2)] [(3,51,[ls b3.ai,.aI none true (α:=af) aK ak b3.aH]),(1004,9,[dM v4])] (gU n v4 (cq v14 v16) _ hr2) (To.aj (cn h (fun h=>?_) (fun h=>?_)))
 ·refine Wp.exit (To.aZ (To.cH (kt [3,4,5,14,15,16] [3,1004] [(3,.own 3 0),(4,.row 1004),(5,vb v5),(14,ls v14),(15,vi v15),(16,vi v16)] [(3,51,[ls b3.ai,.aI none true (α:=af) aK ak b3.aH]),(1004,9,[dM v4])] ?_)))
  cases h
  exact hQ
 ·refine Wp.skip (To.aj (Wp.seq (Wp.seq (rr [] [(3,.agg [ls (lD b3 v14 v16)])] [] [3,4,5,7,14,15,16,27,28,29] [3,1004] [(3,.own 3 0),(4,.row 1004),(5,vb v5),(7,.str (cq v14 v16)),(14,ls v14),(15,vi v15),(16,vi v16),(27,ls (lD b3 v14 v16)),(28,vi (List.length (lD b3 v14 v16):Int)),(29,vi 0)] [(3,51,[ls b3.ai,.aI none true (α:=af) aK ak b3.aH]),(1004,9,[dM v4])] [(true=true->iY true ak b3.aH (.inl (cq v14 v16)) [.val (.slice none 0 0)] (.agg [ls (lD b3 v14 v16)]))] (ax.cons (fun _=>⟨aK,uU (ds:=[.val (.slice none 0 0)]) (es:=[ls []]) (by kernel_rfl) (.cons (.zero _ _) .nil) (by kernel_rfl),by kernel_rfl⟩) ax.nil) ?_))))
  refine To.aj (Wp.block ?_)
  obtain⟨o3,ho3,h⟩:=aG h
  refine kw [3,4,5,7,14,15,16,27,28,29] [3,1004] [(3,.own 3 0),(4,.row 1004),(5,vb v5),(7,.str (cq v14 v16)),(14,ls v14),(15,vi v15),(16,vi v16),(27,ls (lD b3 v14 v16)),(28,vi (List.length (lD b3 v14 v16):Int)),(29,vi 0)] [(3,51,[ls b3.ai,.aI none true (α:=af) aK ak b3.aH]),(1004,9,[dM v4])] (Wp.dE (um n v4 v5 (cq v14 v16) v14 v15 v16 (lD b3 v14 v16) (List.length (lD b3 v14 v16):Int) b3 n 0 o3 ho3 ?_))
  rcases o3 with o3|o3
  ·replace h:=ij h
   refine To.vo (by decide) (To.aZ (To.cH (kt [3,4,5,14,15,16] [3,1004] [(3,.own 3 0),(4,.row 1004),(5,vb v5),(14,ls v14),(15,vi v15),(16,vi v16)] [(3,51,[ls b3.ai,.aI none true (α:=af) aK ak b3.aH]),(1004,9,[dM v4])] ?_)))
   cases h
   exact hQ
  ·replace h:=il h
   refine To.cH (To.aj (Wp.seq ?_))
   obtain⟨hc4,h⟩:=bg h
   refine rr [] [(2,ls ([(cq v14 v16)])),(3,ls (v4++(nz v14 v16)))] [] [3,4,5] [3,41] [(3,.own 3 0),(4,.row 41),(5,vb true)] [(3,51,[ls b3.ai,.aI none true (α:=af) aK ak b3.aH]),(41,9,[dM (v4++(nz v14 v16))])] [(DU v14 v16),_,(Ee v4 v14 v16)] (ax.cons (nD (by kernel_rfl) rfl (by kernel_rfl) (bp _)) (ax.cons hc4 (ax.cons (oQ rfl rfl (bp _)) ax.nil))) (To.aj (Wp.exit (To.vo (by decide) (nt [3,4,5] [3,41] [(41,1004)] [3,4,5] [3,1004] [(3,.own 3 0),(4,.row 1004),(5,vb true)] [(3,51,[ls b3.ai,.aI none true (α:=af) aK ak b3.aH]),(1004,9,[dM (v4++(nz v14 v16))])] ?_))))
   cases h
   exact hQ
def eH(n:Nat)(v14:Ls)(v15:Int)(b3:aC):Nat->(Ls)->Bool->Int->Option ((Ls)×Bool)
 |0,_,_,_=>none
 |k+1,v4,v5,v16=>if(decide (v16<v15))=true then((jH n v4 v5 v14 v15 v16 b3).bind fun o2 =>
 (Sum.elim (fun o2=>eH n v14 v15 b3 k o2.1 o2.2 (IntKind.wrap .i64 (v16+1))) (fun o2=>some (o2.1,o2.2))) o2)
 else(some (v4,v5))
theorem tV(n:Nat)(v14:Ls)(v15:Int)(b3:aC)(k:Nat):∀(v4:Ls)(v5:Bool)(v16:Int)(o:(Ls)×Bool),eH n v14 v15 b3 k v4 v5 v16=some o->To 44 F0 w0 [(3,.own 3 0),(4,.row 1004),(5,vb o.2)] [(3,51,[ls b3.ai,.aI none true (α:=af) aK ak b3.aH]),(1004,9,[dM o.1])] (.exit 2) Q->WL Tryd.prog 44 F0 w0 [(3,.own 3 0),(4,.row 1004),(5,vb v5),(14,ls v14),(15,vi v15),(16,vi v16)] [(3,51,[ls b3.ai,.aI none true (α:=af) aK ak b3.aH]),(1004,9,[dM v4])] (cI (cI (cB (cB (cB (cI (cI (cB (cI (cI (cB (cA (cB (cB (cB (cF Tryd.f7)))))))))))))))) Q:=by
 induction k with
 |zero=>intro v4 v5 v16 o h;cases h
 |succ k ih =>
  intro v4 v5 v16 o h hQ
  rw[eH] at h
  refine WL.round (Wp.seq (rg [3,4,5,14,15,16,17] [3,1004] [(3,.own 3 0),(4,.row 1004),(5,vb v5),(14,ls v14),(15,vi v15),(16,vi v16),(17,vb (decide (v16<v15)))] [(3,51,[ls b3.ai,.aI none true (α:=af) aK ak b3.aH]),(1004,9,[dM v4])] (To.aj (Wp.seq (cn h (fun h=>?_) (fun h=>?_))))))
  ·refine Wp.skip (To.aj (Wp.seq ?_))
   obtain⟨o2,ho2,h⟩:=aG h
   refine kw [3,4,5,14,15,16] [3,1004] [(3,.own 3 0),(4,.row 1004),(5,vb v5),(14,ls v14),(15,vi v15),(16,vi v16)] [(3,51,[ls b3.ai,.aI none true (α:=af) aK ak b3.aH]),(1004,9,[dM v4])] (tN n v4 v5 v14 v15 v16 b3 o2 ho2 ?_)
   rcases o2 with o2|o2
   ·replace h:=ij h
    refine To.aj (rg [3,4,5,14,15,16] [3,1004] [(3,.own 3 0),(4,.row 1004),(5,vb o2.2),(14,ls v14),(15,vi v15),(Aq v16)] [(3,51,[ls b3.ai,.aI none true (α:=af) aK ak b3.aH]),(1004,9,[dM o2.1])] (kt [3,4,5,14,15,16] [3,1004] [(3,.own 3 0),(4,.row 1004),(5,vb o2.2),(14,ls v14),(15,vi v15),(Aq v16)] [(3,51,[ls b3.ai,.aI none true (α:=af) aK ak b3.aH]),(1004,9,[dM o2.1])] (To.again ?_)))
    exact ih o2.1 o2.2 (IntKind.wrap .i64 (v16+1)) _ h hQ
   ·replace h:=il h
    refine To.aZ (To.aZ (kt [3,4,5] [3,1004] [(3,.own 3 0),(4,.row 1004),(5,vb o2.2)] [(3,51,[ls b3.ai,.aI none true (α:=af) aK ak b3.aH]),(1004,9,[dM o2.1])] ?_))
    cases h
    exact hQ
  ·refine Wp.exit (To.aZ (To.aZ (kt [3,4,5] [3,1004] [(3,.own 3 0),(4,.row 1004),(5,vb v5)] [(3,51,[ls b3.ai,.aI none true (α:=af) aK ak b3.aH]),(1004,9,[dM v4])] ?_)))
   cases h
   exact hQ
def eO(n:Nat)(b3:aC):Nat->(Ls)->Bool->Option ((Ls))
 |0,_,_=>none
 |k+1,v4,v5=>if v5=true then((eH n b3.ai (List.length b3.ai:Int) b3 n v4 false 0).bind fun o2 =>
 eO n b3 k o2.1 o2.2)
 else some v4
theorem uk(n:Nat)(b3:aC)(k:Nat):∀(v4:Ls)(v5:Bool)(o:(Ls)),eO n b3 k v4 v5=some o->To 44 F0 w0 [(4,.row 1004)] [(1004,9,[dM o])] (.exit 0) Q->WL Tryd.prog 44 F0 w0 [(3,.own 3 0),(4,.row 1004),(5,vb v5)] [(3,51,[ls b3.ai,.aI none true (α:=af) aK ak b3.aH]),(1004,9,[dM v4])] (cI (cI (cB (cA (cB (cB (cB (cF Tryd.f7)))))))) Q:=by
 induction k with
 |zero=>intro v4 v5 o h;cases h
 |succ k ih =>
  intro v4 v5 o h hQ
  rw[eO] at h
  refine WL.round (Wp.seq (Wp.seq (rg [3,4,12] [3,1004] [(3,.own 3 0),(4,.row 1004),(12,vb v5)] [(3,51,[ls b3.ai,.aI none true (α:=af) aK ak b3.aH]),(1004,9,[dM v4])] (To.aj (cn h (fun h=>?_) (fun h=>?_))))))
  ·refine Wp.skip (To.aj (Wp.block (Wp.scope (Wp.seq (rg [3,4,5] [3,1004] [(3,.own 3 0),(4,.row 1004),(5,vb false)] [(3,51,[ls b3.ai,.aI none true (α:=af) aK ak b3.aH]),(1004,9,[dM v4])] (To.aj (Wp.seq (Wp.label (To.aj (Wp.seq ?_))))))))))
   refine rg [3,4,5,14,15,16] [3,1004] [(3,.own 3 0),(4,.row 1004),(5,vb false),(14,ls b3.ai),(15,vi (List.length b3.ai:Int)),(16,vi 0)] [(3,51,[ls b3.ai,.aI none true (α:=af) aK ak b3.aH]),(1004,9,[dM v4])] (To.aj (Wp.block ?_))
   obtain⟨o2,ho2,h⟩:=aG h
   refine kw [3,4,5,14,15,16] [3,1004] [(3,.own 3 0),(4,.row 1004),(5,vb false),(14,ls b3.ai),(15,vi (List.length b3.ai:Int)),(16,vi 0)] [(3,51,[ls b3.ai,.aI none true (α:=af) aK ak b3.aH]),(1004,9,[dM v4])] (Wp.dE (tV n b3.ai (List.length b3.ai:Int) b3 n v4 false 0 o2 ho2 (To.cH (To.scope (.inl rfl) (To.bT (kt [3,4,5] [3,1004] [(3,.own 3 0),(4,.row 1004),(5,vb o2.2)] [(3,51,[ls b3.ai,.aI none true (α:=af) aK ak b3.aH]),(1004,9,[dM o2.1])] (To.again ?_)))))))
   exact ih o2.1 o2.2 _ h hQ
  ·refine Wp.exit (To.aZ (To.aZ (kt [4] [1004] [(4,.row 1004)] [(1004,9,[dM v4])] ?_)))
   cases h
   exact hQ
def dT(n:Nat)(a0:aD):Option ((Ls)) :=
 (dQ n a0).bind fun r1 =>
 (eO n r1 n ([]:Ls) true).bind fun o2 =>
 some o2
theorem lu(n:Nat)(a0:aD)(r:(Ls))(h:dT n a0=some r):bq Tryd.prog 7 [.agg (aM a0)] (ls r):=by
 unfold dT at h
 refine xo Tryd.f7 rfl fun F0 w0 _=>?_
 refine Wp.seq (rg [1] [1] [(1,.own 1 0)] [(1,25,aM a0)] (To.aj (Wp.seq ?_)))
 obtain⟨r1,hr1,h⟩:=aG h
 refine rc [] 1 [3] [3] [(3,.own 3 0)] [(3,51,[ls r1.ai,.aI none true (α:=af) aK ak r1.aH])] (ko n a0 _ hr1) (To.aj (Wp.seq (rg [3,4] [3] [(3,.own 3 0),(4,.val (.slice none 0 0))] [(3,51,[ls r1.ai,.aI none true (α:=af) aK ak r1.aH])] (To.aj (Wp.seq (Wp.seq (rg [3,4,5] [3] [(3,.own 3 0),(4,.val (.slice none 0 0)),(5,vb true)] [(3,51,[ls r1.ai,.aI none true (α:=af) aK ak r1.aH])] (To.aj (Wp.block ?_)))))))))
 obtain⟨o2,ho2,h⟩:=aG h
 refine kw [3,4,5] [3] [(3,.own 3 0),(4,.val (.slice none 0 0)),(5,vb true)] [(3,51,[ls r1.ai,.aI none true (α:=af) aK ak r1.aH])] (Wp.pre (St.qo (t:=4) (k:=1004) (e:=9) (K':=[(3,.own 3 0),(4,.row 1004),(5,vb true)]) (bp _) (by decide) (by kernel_rfl) (by kernel_rfl)) (kw [3,4,5] [3,1004] [(3,.own 3 0),(4,.row 1004),(5,vb true)] [(3,51,[ls r1.ai,.aI none true (α:=af) aK ak r1.aH]),(1004,9,[bu []])] (Wp.pre (St.settle (ks:=[1004]) (kk:=[3,4,5]) (kl:=[3,1004]) (K':=[(3,.own 3 0),(4,.row 1004),(5,vb true)]) (L':=[(3,51,[ls r1.ai,.aI none true (α:=af) aK ak r1.aH]),(1004,9,[dM []])]) (by kernel_rfl)) (Wp.dE (uk n r1 n ([]:Ls) true o2 ho2 (To.cH (To.aj (Wp.seq (rg [2] [1004] [(2,.row 1004)] [(1004,9,[dM o2])] (To.aj (Wp.ret ?_)))))))))))
 refine To.pre (St.yr [2] (K':=[(2,ls o2)]) (by kernel_rfl)) ?_
 cases h
 exact To.done hΓ (by kernel_rfl)
def lT(n:Nat)(v0:Ls)(v1:Ls):Nat->Int->Option (Sum (Unit) (Bool))
 |0,_=>none
 |k+1,v5=>if(decide (v5<(List.length v0:Int)))=true then(if(decide (0<=v5/\v5<(List.length v0:Int)))=true then(if(decide (0<=v5/\v5<(List.length v1:Int)))=true then(if(!(((v0)[Int.toNat v5]?.getD [])==((v1)[Int.toNat v5]?.getD [])))=true then(some (.inr false))
 else(lT n v0 v1 k (IntKind.wrap .i64 (v5+1)))) else none) else none)
 else(some (.inl ()))
theorem uT(n:Nat)(v0:Ls)(v1:Ls)(k:Nat):∀(v5:Int)(o:Sum (Unit) (Bool)),lT n v0 v1 k v5=some o->(Sum.elim (fun s=>To 26 F0 w0 [] [] (.exit 0) Q) (fun s=>To 26 F0 w0 [(4,vb s)] [] .ret Q)) o->WL Tryd.prog 26 F0 w0 [(0,ls v0),(1,ls v1),(5,vi v5)] [] (cI (cI (cB (cA (cB (cB (cF Tryd.f16))))))) Q:=by
 induction k with
 |zero=>intro v5 o h;cases h
 |succ k ih =>
  intro v5 o h hQ
  rw[lT] at h
  refine WL.round (Wp.seq (Wp.seq (rg [0,1,5,14] [] [(0,ls v0),(1,ls v1),(5,vi v5),(14,vb (ex8 v5 v0))] [] (To.aj (cn h (fun h=>?_) (fun h=>?_))))))
  ·refine Wp.skip (To.aj (Wp.seq (Wp.block (Wp.seq ?_))))
   obtain⟨hc1,h⟩:=bg h
   obtain⟨hc2,h⟩:=bg h
   refine Wp.kZ hm hΓ [] [0,1,5,25] [] (K':=[(0,ls v0),(1,ls v1),(5,vi v5),(25,vb (!(((v0)[Int.toNat v5]?.getD [])==((v1)[Int.toNat v5]?.getD []))))]) (L':=[]) (ob:=[(ex7 v5 v0)=true,(ex7 v5 v1)=true]) (by kernel_rfl) (ax.cons hc1 (ax.cons hc2 ax.nil)) (To.aj (cn h (fun h=>?_) (fun h=>?_)))
   ·refine Wp.seq (rg [4] [] [(4,vb false)] [] (To.aj (Wp.ret (To.bH (To.aX (To.aX ?_))))))
    cases h
    exact hQ
   ·refine Wp.skip (To.bT (To.aj (rg [0,1,5] [] [(0,ls v0),(1,ls v1),(ex2 v5)] [] (kt [0,1,5] [] [(0,ls v0),(1,ls v1),(ex2 v5)] [] (To.again ?_)))))
    exact ih (IntKind.wrap .i64 (v5+1)) _ h hQ
  ·refine Wp.exit (To.aZ (To.aZ (kt [] [] [] [] ?_)))
   cases h
   exact hQ
def oN(n:Nat)(a0:Ls)(a1:Ls):Option (Bool) :=
 if((List.length a0:Int) != (List.length a1:Int))=true then some false
 else((lT n a0 a1 n 0).bind fun o1 =>
 (Sum.elim (fun o1=>some true) (fun o1=>some o1)) o1)
theorem ym(n:Nat)(a0:Ls)(a1:Ls)(r:Bool)(h:oN n a0 a1=some r):bq Tryd.prog 16 [ls a0,ls a1] (vb r):=by
 unfold oN at h
 refine xo Tryd.f16 rfl fun F0 w0 _=>?_
 refine Wp.seq (rg [0,1] [] [(0,ls a0),(1,ls a1)] [] (To.aj (Wp.seq (Wp.seq (rg [0,1,10] [] [(0,ls a0),(1,ls a1),(10,vb ((List.length a0:Int) != (List.length a1:Int)))] [] (To.aj (cn h (fun h=>?_) (fun h=>?_))))))))
 ·refine Wp.seq (rg [4] [] [(4,vb false)] [] (To.aj (Wp.ret (To.aX ?_))))
  cases h
  exact To.done hΓ (by kernel_rfl)
 ·refine Wp.skip (To.aj (Wp.seq (Wp.seq (rg [0,1,5] [] [(0,ls a0),(1,ls a1),(5,vi 0)] [] (To.aj (Wp.block ?_))))))
  obtain⟨o1,ho1,h⟩:=aG h
  refine kw [0,1,5] [] [(0,ls a0),(1,ls a1),(5,vi 0)] [] (Wp.dE (uT n a0 a1 n 0 o1 ho1 ?_))
  rcases o1 with o1|o1
  ·replace h:=ij h
   refine To.cH (To.aj (Wp.seq (rg [4] [] [(4,vb true)] [] (To.aj (Wp.ret ?_)))))
   cases h
   exact To.done hΓ (by kernel_rfl)
  ·replace h:=il h
   refine To.bH (To.aX ?_)
   cases h
   exact To.done hΓ (by kernel_rfl)
def jQ:Int->List D:=fun x=>[.val (.int .i64 x)]
def df(n:Nat)(v1:Bs)(v8:Bs)(v15:Ls)(v16:Int)(v17:Int)(v25:Ls)(v26:Int)(b5:aC):Nat->Int->(List (MK×Int))->Option ((List (MK×Int)))
 |0,_,_=>none
 |k+1,v27,b13=>if(decide (v27<v26))=true then(if(decide (0<=v27/\v27<(List.length v25:Int)))=true then(df n v1 v8 v15 v16 v17 v25 v26 b5 k (IntKind.wrap .i64 (v27+1)) (eU b13 (.inl v8) (if((bn b13 (.inl ((v25)[Int.toNat v27]?.getD []))).getD 0)>((bn b13 (.inl v8)).getD 0) then((bn b13 (.inl ((v25)[Int.toNat v27]?.getD []))).getD 0) else((bn b13 (.inl v8)).getD 0)))) else none)
 else some b13
abbrev ie(l:List (MK×Int)):D:=.dH none false (α:=Int) 0 jQ l
abbrev AY(x0:List (MK×Int))(x1:Bs):=((bn x0 (.inl x1)).getD 0)
abbrev sN(x0:List (MK×Int))(x1:Ls)(x2:Int)(x3:Bs):=(if((bn x0 (.inl (cq x1 x2))).getD 0)>(AY x0 x3) then((bn x0 (.inl (cq x1 x2))).getD 0) else(AY x0 x3))
theorem uj(n:Nat)(v1:Bs)(v8:Bs)(v15:Ls)(v16:Int)(v17:Int)(v25:Ls)(v26:Int)(b5:aC)(k:Nat):∀(v27:Int)(b13:List (MK×Int))(o:(List (MK×Int))),df n v1 v8 v15 v16 v17 v25 v26 b5 k v27 b13=some o->To 50 F0 w0 [(1,.str v1),(5,.own 5 0),(6,.mp 13),(8,.str v8),(15,ls v15),(16,vi v16),(17,vi v17)] [(5,51,[ls b5.ai,.aI none true (α:=af) aK ak b5.aH]),(13,58,[ie o])] (.exit 2) Q->WL Tryd.prog 50 F0 w0 [(1,.str v1),(5,.own 5 0),(6,.mp 13),(8,.str v8),(15,ls v15),(16,vi v16),(17,vi v17),(25,ls v25),(26,vi v26),(27,vi v27)] [(5,51,[ls b5.ai,.aI none true (α:=af) aK ak b5.aH]),(13,58,[ie b13])] (cI (cI (cB (cA (cB (cI (cA (cB (cB (cI (cI (cB (cA (cB (cB (cB (cF Tryd.f10))))))))))))))))) Q:=by
 induction k with
 |zero=>intro v27 b13 o h;cases h
 |succ k ih =>
  intro v27 b13 o h hQ
  rw[df] at h
  refine WL.round (Wp.seq (rg [1,5,6,8,15,16,17,25,26,27,28] [5,13] [(1,.str v1),(5,.own 5 0),(6,.mp 13),(8,.str v8),(15,ls v15),(16,vi v16),(17,vi v17),(25,ls v25),(26,vi v26),(27,vi v27),(28,vb (decide (v27<v26)))] [(5,51,[ls b5.ai,.aI none true (α:=af) aK ak b5.aH]),(13,58,[ie b13])] (To.aj (Wp.seq (cn h (fun h=>?_) (fun h=>?_))))))
  ·refine Wp.skip (To.aj (Wp.seq (Wp.block (Wp.seq ?_))))
   obtain⟨hc3,h⟩:=bg h
   refine r0 [1,5,6,8,10,15,16,17,25,26,27] [5,13] [(1,.str v1),(5,.own 5 0),(6,.mp 13),(8,.str v8),(10,.str (cq v25 v27)),(15,ls v15),(16,vi v16),(17,vi v17),(25,ls v25),(26,vi v26),(27,vi v27)] [(5,51,[ls b5.ai,.aI none true (α:=af) aK ak b5.aH]),(13,58,[ie b13])] (ax.cons hc3 ax.nil) (To.aj (rr [] [(4,vi (AY b13 v8)),(7,vi ((bn b13 (.inl (cq v25 v27))).getD 0)),(9,ie (eU b13 (.inl v8) (sN b13 v25 v27 v8)))] [] [1,5,6,8,15,16,17,25,26,27] [5,13] [(1,.str v1),(5,.own 5 0),(6,.mp 13),(8,.str v8),(15,ls v15),(16,vi v16),(17,vi v17),(25,ls v25),(26,vi v26),(27,vi v27)] [(5,51,[ls b5.ai,.aI none true (α:=af) aK ak b5.aH]),(13,58,[ie (eU b13 (.inl v8) (sN b13 v25 v27 v8))])] [(true=true->iY false jQ b13 (.inl v8) [vi 0] (vi (AY b13 v8))),(true=true->iY false jQ b13 (.inl (cq v25 v27)) [vi 0] (vi ((bn b13 (.inl (cq v25 v27))).getD 0))),(∃l':List (MK×Int),(ie (eU b13 (.inl v8) (sN b13 v25 v27 v8)):D)=ie l'/\qC jQ b13 (.inl v8) [vi (sN b13 v25 v27 v8)] l')] (ax.cons (fun _=>⟨0,bf.of_eq (by kernel_rfl),by kernel_rfl⟩) (ax.cons (fun _=>⟨0,bf.of_eq (by kernel_rfl),by kernel_rfl⟩) (ax.cons (⟨_,rfl,(sN b13 v25 v27 v8),bf.of_eq (by kernel_rfl),rfl⟩) ax.nil))) ?_))
   refine To.bT (To.aj (rg [1,5,6,8,15,16,17,25,26,27] [5,13] [(1,.str v1),(5,.own 5 0),(6,.mp 13),(8,.str v8),(15,ls v15),(16,vi v16),(17,vi v17),(25,ls v25),(26,vi v26),(27,vi (IntKind.wrap .i64 (v27+1)))] [(5,51,[ls b5.ai,.aI none true (α:=af) aK ak b5.aH]),(13,58,[ie (eU b13 (.inl v8) (sN b13 v25 v27 v8))])] (kt [1,5,6,8,15,16,17,25,26,27] [5,13] [(1,.str v1),(5,.own 5 0),(6,.mp 13),(8,.str v8),(15,ls v15),(16,vi v16),(17,vi v17),(25,ls v25),(26,vi v26),(27,vi (IntKind.wrap .i64 (v27+1)))] [(5,51,[ls b5.ai,.aI none true (α:=af) aK ak b5.aH]),(13,58,[ie (eU b13 (.inl v8) (sN b13 v25 v27 v8))])] (To.again ?_))))
   exact ih (IntKind.wrap .i64 (v27+1)) (eU b13 (.inl v8) (sN b13 v25 v27 v8)) _ h hQ
  ·refine Wp.exit (To.aZ (To.aZ (kt [1,5,6,8,15,16,17] [5,13] [(1,.str v1),(5,.own 5 0),(6,.mp 13),(8,.str v8),(15,ls v15),(16,vi v16),(17,vi v17)] [(5,51,[ls b5.ai,.aI none true (α:=af) aK ak b5.aH]),(13,58,[ie b13])] ?_)))
   cases h
   exact hQ
def cO(n:Nat)(v1:Bs)(v15:Ls)(v16:Int)(b5:aC):Nat->Int->(List (MK×Int))->Option ((List (MK×Int)))
 |0,_,_=>none
 |k+1,v17,b13=>if(decide (v17<v16))=true then(if(decide (0<=v17/\v17<(List.length v15:Int)))=true then((df n v1 ((v15)[Int.toNat v17]?.getD []) v15 v16 v17 (((bn b5.aH (.inl ((v15)[Int.toNat v17]?.getD []))).getD (af.mk [])).f_l) (List.length (((bn b5.aH (.inl ((v15)[Int.toNat v17]?.getD []))).getD (af.mk [])).f_l):Int) b5 n 0 b13).bind fun o3 =>
 cO n v1 v15 v16 b5 k (IntKind.wrap .i64 (v17+1)) (eU o3 (.inl ((v15)[Int.toNat v17]?.getD [])) (IntKind.wrap .i64 (((bn o3 (.inl ((v15)[Int.toNat v17]?.getD []))).getD 0)+1)))) else none)
 else some b13
theorem tQ(n:Nat)(v1:Bs)(v15:Ls)(v16:Int)(b5:aC)(k:Nat):∀(v17:Int)(b13:List (MK×Int))(o:(List (MK×Int))),cO n v1 v15 v16 b5 k v17 b13=some o->To 50 F0 w0 [(1,.str v1),(6,.mp 13)] [(13,58,[ie o])] (.exit 0) Q->WL Tryd.prog 50 F0 w0 [(1,.str v1),(5,.own 5 0),(6,.mp 13),(15,ls v15),(16,vi v16),(17,vi v17)] [(5,51,[ls b5.ai,.aI none true (α:=af) aK ak b5.aH]),(13,58,[ie b13])] (cI (cI (cB (cA (cB (cB (cB (cF Tryd.f10)))))))) Q:=by
 induction k with
 |zero=>intro v17 b13 o h;cases h
 |succ k ih =>
  intro v17 b13 o h hQ
  rw[cO] at h
  refine WL.round (Wp.seq (rg [1,5,6,15,16,17,18] [5,13] [(1,.str v1),(5,.own 5 0),(6,.mp 13),(15,ls v15),(16,vi v16),(17,vi v17),(18,vb (decide (v17<v16)))] [(5,51,[ls b5.ai,.aI none true (α:=af) aK ak b5.aH]),(13,58,[ie b13])] (To.aj (Wp.seq (cn h (fun h=>?_) (fun h=>?_))))))
  ·refine Wp.skip (To.aj (Wp.seq (Wp.block (Wp.seq ?_))))
   obtain⟨hc4,h⟩:=bg h
   refine r0 [1,5,6,8,15,16,17] [5,13] [(1,.str v1),(5,.own 5 0),(6,.mp 13),(8,.str (cq v15 v17)),(15,ls v15),(16,vi v16),(17,vi v17)] [(5,51,[ls b5.ai,.aI none true (α:=af) aK ak b5.aH]),(13,58,[ie b13])] (ax.cons hc4 ax.nil) (To.aj (Wp.seq (Wp.seq (rr [] [(3,.agg [ls (lD b5 v15 v17)])] [] [1,5,6,8,15,16,17,25,26,27] [5,13] [(1,.str v1),(5,.own 5 0),(6,.mp 13),(8,.str (cq v15 v17)),(15,ls v15),(16,vi v16),(17,vi v17),(25,ls (lD b5 v15 v17)),(26,vi (List.length (lD b5 v15 v17):Int)),(27,vi 0)] [(5,51,[ls b5.ai,.aI none true (α:=af) aK ak b5.aH]),(13,58,[ie b13])] [(true=true->iY true ak b5.aH (.inl (cq v15 v17)) [.val (.slice none 0 0)] (.agg [ls (lD b5 v15 v17)]))] (ax.cons (fun _=>⟨aK,uU (ds:=[.val (.slice none 0 0)]) (es:=[ls []]) (by kernel_rfl) (.cons (.zero _ _) .nil) (by kernel_rfl),by kernel_rfl⟩) ax.nil) ?_))))
   refine To.aj (Wp.block ?_)
   obtain⟨o3,ho3,h⟩:=aG h
   refine kw [1,5,6,8,15,16,17,25,26,27] [5,13] [(1,.str v1),(5,.own 5 0),(6,.mp 13),(8,.str (cq v15 v17)),(15,ls v15),(16,vi v16),(17,vi v17),(25,ls (lD b5 v15 v17)),(26,vi (List.length (lD b5 v15 v17):Int)),(27,vi 0)] [(5,51,[ls b5.ai,.aI none true (α:=af) aK ak b5.aH]),(13,58,[ie b13])] (Wp.dE (uj n v1 (cq v15 v17) v15 v16 v17 (lD b5 v15 v17) (List.length (lD b5 v15 v17):Int) b5 n 0 b13 o3 ho3 (To.cH (To.aj (rr [] [(2,vi ((bn o3 (.inl (cq v15 v17))).getD 0)),(4,ie (eU o3 (.inl (cq v15 v17)) (IntKind.wrap .i64 (((bn o3 (.inl (cq v15 v17))).getD 0)+1))))] [] [1,5,6,15,16,17] [5,13] [(1,.str v1),(5,.own 5 0),(6,.mp 13),(15,ls v15),(16,vi v16),(17,vi v17)] [(5,51,[ls b5.ai,.aI none true (α:=af) aK ak b5.aH]),(13,58,[ie (eU o3 (.inl (cq v15 v17)) (IntKind.wrap .i64 (((bn o3 (.inl (cq v15 v17))).getD 0)+1)))])] [(true=true->iY false jQ o3 (.inl (cq v15 v17)) [vi 0] (vi ((bn o3 (.inl (cq v15 v17))).getD 0))),(∃l':List (MK×Int),(ie (eU o3 (.inl (cq v15 v17)) (IntKind.wrap .i64 (((bn o3 (.inl (cq v15 v17))).getD 0)+1))):D)=ie l'/\qC jQ o3 (.inl (cq v15 v17)) [vi (IntKind.wrap .i64 (((bn o3 (.inl (cq v15 v17))).getD 0)+1))] l')] (ax.cons (fun _=>⟨0,bf.of_eq (by kernel_rfl),by kernel_rfl⟩) (ax.cons (⟨_,rfl,(IntKind.wrap .i64 (((bn o3 (.inl (cq v15 v17))).getD 0)+1)),bf.of_eq (by kernel_rfl),rfl⟩) ax.nil)) ?_)))))
   refine To.bT (To.aj (rg [1,5,6,15,16,17] [5,13] [(1,.str v1),(5,.own 5 0),(6,.mp 13),(15,ls v15),(16,vi v16),(17,vi (IntKind.wrap .i64 (v17+1)))] [(5,51,[ls b5.ai,.aI none true (α:=af) aK ak b5.aH]),(13,58,[ie (eU o3 (.inl (cq v15 v17)) (IntKind.wrap .i64 (((bn o3 (.inl (cq v15 v17))).getD 0)+1)))])] (kt [1,5,6,15,16,17] [5,13] [(1,.str v1),(5,.own 5 0),(6,.mp 13),(15,ls v15),(16,vi v16),(17,vi (IntKind.wrap .i64 (v17+1)))] [(5,51,[ls b5.ai,.aI none true (α:=af) aK ak b5.aH]),(13,58,[ie (eU o3 (.inl (cq v15 v17)) (IntKind.wrap .i64 (((bn o3 (.inl (cq v15 v17))).getD 0)+1)))])] (To.again ?_))))
   exact ih (IntKind.wrap .i64 (v17+1)) (eU o3 (.inl (cq v15 v17)) (IntKind.wrap .i64 (((bn o3 (.inl (cq v15 v17))).getD 0)+1))) _ h hQ
  ·refine Wp.exit (To.aZ (To.aZ (kt [1,6] [13] [(1,.str v1),(6,.mp 13)] [(13,58,[ie b13])] ?_)))
   cases h
   exact hQ
def fu(n:Nat)(a0:aD)(a1:Bs):Option (Int) :=
 (dQ n a0).bind fun r1 =>
 (dT n a0).bind fun r2 =>
 (cO n a1 r2 (List.length r2:Int) r1 n 0 ([]:List (MK×Int))).bind fun o3 =>
 some (IntKind.wrap .i64 (((bn o3 (.inl a1)).getD 0)-1))
theorem lg(n:Nat)(a0:aD)(a1:Bs)(r:Int)(h:fu n a0 a1=some r):bq Tryd.prog 10 [.agg (aM a0),.str a1] (vi r):=by
 unfold fu at h
 refine xo Tryd.f10 rfl fun F0 w0 _=>?_
 refine Wp.seq (rg [1,2] [2] [(1,.str a1),(2,.own 2 0)] [(2,25,aM a0)] (To.aj (Wp.seq ?_)))
 obtain⟨r1,hr1,h⟩:=aG h
 refine rc [] 1 [1,2,5] [2,5] [(1,.str a1),(2,.own 2 0),(5,.own 5 0)] [(2,25,aM a0),(5,51,[ls r1.ai,.aI none true (α:=af) aK ak r1.aH])] (ko n a0 _ hr1) (To.aj (Wp.seq (rr [] [(0,ie [])] [] [1,2,5,6] [2,5,13] [(1,.str a1),(2,.own 2 0),(5,.own 5 0),(6,.mp 13)] [(2,25,aM a0),(5,51,[ls r1.ai,.aI none true (α:=af) aK ak r1.aH]),(13,58,[ie []])] [(pP false jQ)] (ax.cons (⟨fun _=>rfl,fun _ _=>rfl⟩) ax.nil) ?_)))
 refine To.aj (Wp.seq (Wp.seq ?_))
 obtain⟨r2,hr2,h⟩:=aG h
 refine rc [] 1 [1,5,6,15,16,17] [5,13] [(1,.str a1),(5,.own 5 0),(6,.mp 13),(15,ls r2),(16,vi (List.length r2:Int)),(17,vi 0)] [(5,51,[ls r1.ai,.aI none true (α:=af) aK ak r1.aH]),(13,58,[ie []])] (lu n a0 _ hr2) (To.aj (Wp.block ?_))
 obtain⟨o3,ho3,h⟩:=aG h
 refine kw [1,5,6,15,16,17] [5,13] [(1,.str a1),(5,.own 5 0),(6,.mp 13),(15,ls r2),(16,vi (List.length r2:Int)),(17,vi 0)] [(5,51,[ls r1.ai,.aI none true (α:=af) aK ak r1.aH]),(13,58,[ie []])] (Wp.dE (tQ n a1 r2 (List.length r2:Int) r1 n 0 ([]:List (MK×Int)) o3 ho3 (To.cH (To.aj (Wp.seq (rr [] [(2,vi ((bn o3 (.inl a1)).getD 0))] [] [4] [] [(4,vi (IntKind.wrap .i64 (((bn o3 (.inl a1)).getD 0)-1)))] [] [(true=true->iY false jQ o3 (.inl a1) [vi 0] (vi ((bn o3 (.inl a1)).getD 0)))] (ax.cons (fun _=>⟨0,bf.of_eq (by kernel_rfl),by kernel_rfl⟩) ax.nil) ?_))))))
 refine To.aj (Wp.ret ?_)
 cases h
 exact To.done hΓ (by kernel_rfl)
end Go.Proofs.YtpmmhhmhckpnfaaDoor.M
