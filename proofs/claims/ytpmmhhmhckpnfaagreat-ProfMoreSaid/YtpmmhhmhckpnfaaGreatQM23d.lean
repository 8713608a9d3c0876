import Derived.Test.YtpmmhhmhckpnfaaGreatQM23c
set_option linter.all false
namespace Go.Proofs.YtpmmhhmhckpnfaaGreat.M
open Go.RowKit Go.Proofs.YtpmmhhmhckpnfaaGreat.RX
set_option maxRecDepth 100000
variable {F0:Fz} {w0:Pt Tryz.prog} {Q:Exit->Act->World->Prop}
theorem yY(n:Nat)(v0:Bs)(k:Nat):∀(v3:Int)(o:Sum (Unit) (Bool)),gK n v0 k v3=some o->(Sum.elim (fun s=>To 37 F0 w0 [] [] (.exit 0) Q) (fun s=>To 37 F0 w0 [(2,vb s)] [] .ret Q)) o->WL Tryz.prog 37 F0 w0 [(0,.str v0),(3,vi v3)] [] (cI (cI (cB (cA (cB (cB (cF Tryz.f119))))))) Q:=by
 induction k with
 |zero=>intro v3 o h;cases h
 |succ k ih =>
  intro v3 o h hQ
  rw[gK] at h
  refine WL.round (Wp.seq (Wp.seq (rg [0,3,16] [] [(0,.str v0),(3,vi v3),(16,vb (mj v3 v0))] [] (To.ah (cn h (fun h=>?_) (fun h=>?_))))))
  ·refine Wp.skip (To.ah (Wp.seq (Wp.block (Wp.seq ?_))))
   obtain⟨hc2,h⟩:=ax h
   refine rr [] [(3,vi (bH (bK v0 v3)))] [] [0,3,4] [] [(0,.str v0),(3,vi v3),(4,vi (bH (bK v0 v3)))] [] [_,_] (ai.cons hc2 (ai.cons (c1 (qX (bK v0 v3) _ rfl)) ai.nil)) (To.ah (Wp.seq ?_))
   obtain⟨x1,hx1,h⟩:=aS h
   refine rg [0,3,36] [] [(0,.str v0),(3,vi v3),(36,vb (bif (bif ((bH (bK v0 v3))==0) then true else(decide ((bH (bK v0 v3))>4))) then true else(bif (v3==0) then((bH (bK v0 v3))==3) else false)))] [] (To.eq (K':=[(0,.str v0),(3,vi v3),(36,vb x1)]) (L':=[]) (by cases hx1;rfl) (by cases hx1;rfl) (To.ah (cn h (fun h=>?_) (fun h=>?_))))
   ·refine Wp.seq (rg [2] [] [(2,vb false)] [] (To.ah (Wp.ret (To.aP (To.aA (To.aA ?_))))))
    cases h
    exact hQ
   ·refine Wp.skip (To.aR (To.ah (rg [0,3] [] [(0,.str v0),(uz v3)] [] (kt [0,3] [] [(0,.str v0),(uz v3)] [] (To.again ?_)))))
    exact ih (IntKind.wrap .i64 (v3+1)) _ h hQ
  ·refine Wp.exit (To.aK (To.aK (kt [] [] [] [] ?_)))
   cases h
   exact hQ
def mJ(n:Nat)(a0:Bs):Option (Bool) :=
 if(bif (decide ((List.length a0:Int)<1)) then true else(decide ((List.length a0:Int)>24)))=true then some false
 else((gK n a0 n 0).bind fun o1 =>
 (Sum.elim (fun o1=>some true) (fun o1=>some o1)) o1)
theorem CQ(n:Nat)(a0:Bs)(r:Bool)(h:mJ n a0=some r):aJ Tryz.prog 119 [.str a0] (vb r):=by
 unfold mJ at h
 refine xo Tryz.f119 rfl fun F0 w0 _=>?_
 refine Wp.seq (rg [0] [] [(0,.str a0)] [] (To.ah (Wp.seq (Wp.seq (rg [0,12] [] [(0,.str a0),(12,vb (Rx a0))] [] (To.ah (cn h (fun h=>?_) (fun h=>?_))))))))
 ·refine Wp.seq (rg [2] [] [(2,vb false)] [] (To.ah (Wp.ret (To.aA ?_))))
  cases h
  exact To.done hΓ (by kernel_rfl)
 ·refine Wp.skip (To.ah (Wp.seq (Wp.seq (rg [0,3] [] [(0,.str a0),(3,vi 0)] [] (To.ah (Wp.block ?_))))))
  obtain⟨o1,ho1,h⟩:=au h
  refine kw [0,3] [] [(0,.str a0),(3,vi 0)] [] (Wp.bE (yY n a0 n 0 o1 ho1 ?_))
  rcases o1 with o1|o1
  ·replace h:=cv h
   refine To.aY (To.ah (Wp.seq (rg [2] [] [(2,vb true)] [] (To.ah (Wp.ret ?_)))))
   cases h
   exact To.done hΓ (by kernel_rfl)
  ·replace h:=cy h
   refine To.aP (To.aA ?_)
   cases h
   exact To.done hΓ (by kernel_rfl)
def rQ(n:Nat)(a0:Bs)(a1:Bool):Option (Bool) :=
 if a1=true then((mJ n a0).bind fun r1 =>
 some r1)
 else((il n a0).bind fun r2 =>
 some r2)
theorem zA(n:Nat)(a0:Bs)(a1:Bool)(r:Bool)(h:rQ n a0 a1=some r):aJ Tryz.prog 95 [.str a0,vb a1] (vb r):=by
 unfold rQ at h
 refine xo Tryz.f95 rfl fun F0 w0 _=>?_
 refine Wp.seq (rg [0,1] [] [(0,.str a0),(1,vb a1)] [] (To.ah (Wp.seq (Wp.seq (rg [0,5] [] [(0,.str a0),(5,vb a1)] [] (To.ah (cn h (fun h=>?_) (fun h=>?_))))))))
 ·refine Wp.seq ?_
  obtain⟨r1,hr1,h⟩:=au h
  refine rc [] 1 [4] [] [(4,vb r1)] [] (CQ n a0 _ hr1) (To.ah (Wp.ret (To.aA ?_)))
  cases h
  exact To.done hΓ (by kernel_rfl)
 ·refine Wp.skip (To.ah (Wp.seq ?_))
  obtain⟨r2,hr2,h⟩:=au h
  refine rc [] 1 [4] [] [(4,vb r2)] [] (jW n a0 _ hr2) (To.ah (Wp.ret ?_))
  cases h
  exact To.done hΓ (by kernel_rfl)
def kH(n:Nat)(v0:Ls)(v1:Bs):Nat->Int->Option (Sum (Unit) (Bool))
 |0,_=>none
 |k+1,v5=>if(decide (v5<(List.length v0:Int)))=true then(if(decide (0<=v5/\v5<(List.length v0:Int)))=true then(if(((v0)[Int.toNat v5]?.getD [])==v1)=true then(some (.inr true))
 else(kH n v0 v1 k (IntKind.wrap .i64 (v5+1)))) else none)
 else(some (.inl ()))
theorem HE(n:Nat)(v0:Ls)(v1:Bs)(k:Nat):∀(v5:Int)(o:Sum (Unit) (Bool)),kH n v0 v1 k v5=some o->(Sum.elim (fun s=>To 18 F0 w0 [] [] (.exit 0) Q) (fun s=>To 18 F0 w0 [(4,vb s)] [] .ret Q)) o->WL Tryz.prog 18 F0 w0 [(0,ls v0),(1,.str v1),(5,vi v5)] [] (cI (cI (cB (cA (cB (cF Tryz.f22)))))) Q:=by
 induction k with
 |zero=>intro v5 o h;cases h
 |succ k ih =>
  intro v5 o h hQ
  rw[kH] at h
  refine WL.round (Wp.seq (Wp.seq (rg [0,1,5,9] [] [(0,ls v0),(1,.str v1),(5,vi v5),(9,vb (ex4 v5 v0))] [] (To.ah (cn h (fun h=>?_) (fun h=>?_))))))
  ·refine Wp.skip (To.ah (Wp.seq (Wp.block (Wp.seq ?_))))
   obtain⟨hc1,h⟩:=ax h
   refine r0 [0,1,5,17] [] [(0,ls v0),(1,.str v1),(5,vi v5),(17,vb (((v0)[Int.toNat v5]?.getD [])==v1))] [] (ai.cons hc1 ai.nil) (To.ah (cn h (fun h=>?_) (fun h=>?_)))
   ·refine Wp.seq (rg [4] [] [(4,vb true)] [] (To.ah (Wp.ret (To.aP (To.aA (To.aA ?_))))))
    cases h
    exact hQ
   ·refine Wp.skip (To.aR (To.ah (rg [0,1,5] [] [(0,ls v0),(1,.str v1),(ex3 v5)] [] (kt [0,1,5] [] [(0,ls v0),(1,.str v1),(ex3 v5)] [] (To.again ?_)))))
    exact ih (IntKind.wrap .i64 (v5+1)) _ h hQ
  ·refine Wp.exit (To.aK (To.aK (kt [] [] [] [] ?_)))
   cases h
   exact hQ
def mo(n:Nat)(a0:Ls)(a1:Bs):Option (Bool) :=
 (kH n a0 a1 n 0).bind fun o1 =>
 (Sum.elim (fun o1=>some false) (fun o1=>some o1)) o1
theorem uG(n:Nat)(a0:Ls)(a1:Bs)(r:Bool)(h:mo n a0 a1=some r):aJ Tryz.prog 22 [ls a0,.str a1] (vb r):=by
 unfold mo at h
 refine xo Tryz.f22 rfl fun F0 w0 _=>?_
 refine Wp.seq (rg [0,1] [] [(0,ls a0),(1,.str a1)] [] (To.ah (Wp.seq (Wp.seq (rg [0,1,5] [] [(0,ls a0),(1,.str a1),(5,vi 0)] [] (To.ah (Wp.block ?_)))))))
 obtain⟨o1,ho1,h⟩:=au h
 refine kw [0,1,5] [] [(0,ls a0),(1,.str a1),(5,vi 0)] [] (Wp.bE (HE n a0 a1 n 0 o1 ho1 ?_))
 rcases o1 with o1|o1
 ·replace h:=cv h
  refine To.aY (To.ah (Wp.seq (rg [4] [] [(4,vb false)] [] (To.ah (Wp.ret ?_)))))
  cases h
  exact To.done hΓ (by kernel_rfl)
 ·replace h:=cy h
  refine To.aP (To.aA ?_)
  cases h
  exact To.done hΓ (by kernel_rfl)
def rm(n:Nat)(v1:Bs)(v8:Bool)(v9:Int)(b3:af)(b5:af)(b6:af)(b7:af):Option (Bool×af) :=
 if(decide (0<=v9/\v9<(List.length b3.ak:Int)))=true then(if(decide ((List.length b7.ak+List.length ([((b3.ak)[Int.toNat v9]?.getD [])]:Ls))*(16+1)<=limit))=true then(if(decide (0<=v9/\v9<(List.length b3.ak:Int)))=true then(if(((b3.ak)[Int.toNat v9]?.getD [])==v1)=true then(if(decide ((List.length b7.aj+List.length ([b5]:List (af)))*(72+1)<=limit))=true then(some (true,(af.mk b7.av b7.aC (b7.ak++([((b3.ak)[Int.toNat v9]?.getD [])]:Ls)) (b7.aj++([b5]:List (af)))))) else none)
 else(if(decide (0<=v9/\v9<(List.length b3.aj:Int)))=true then(if(decide ((List.length b7.aj+List.length ([((b3.aj)[Int.toNat v9]?.getD (af.mk 0 [] [] []))]:List (af)))*(72+1)<=limit))=true then(some (v8,(af.mk b7.av b7.aC (b7.ak++([((b3.ak)[Int.toNat v9]?.getD [])]:Ls)) (b7.aj++([((b3.aj)[Int.toNat v9]?.getD (af.mk 0 [] [] []))]:List (af)))))) else none) else none)) else none) else none) else none
abbrev fU(k0:Nat)(k1:Nat)(x:af):List D:=[vi x.av,.str x.aC,.row k0,.row k1]
abbrev xx(x0:af)(x1:af):=(x0.aj++([x1]:List (af)))
abbrev xC(x0:af)(x1:af)(x2:Int):=(x0.ak++([(df x1 x2)]:Ls))
abbrev JR(x0:af)(x1:af)(x2:Int):=(x0.aj++([(ex5 x1 x2)]:List (af)))
theorem ER(n:Nat)(v1:Bs)(v8:Bool)(v9:Int)(b3:af)(b5:af)(b6:af)(b7:af)(o:Bool×af)(h:rm n v1 v8 v9 b3 b5 b6 b7=some o)(hQ:To 75 F0 w0 [(1,.str v1),(3,.own 3 0),(5,.own 5 0),(6,.own 6 0),(7,.own 7 0),(8,vb o.1),(9,vi v9)] [(3,25,qc6 b3),(5,25,qc6 b5),(6,25,qc6 b6),(7,25,fU 4422 4423 o.2),(4422,9,[rc1 o.2.ak]),(4423,25,[rc9 o.2.aj])] .normal Q):Wp Tryz.prog 75 F0 w0 [(1,.str v1),(3,.own 3 0),(5,.own 5 0),(6,.own 6 0),(7,.own 7 0),(8,vb v8),(9,vi v9)] [(3,25,qc6 b3),(5,25,qc6 b5),(6,25,qc6 b6),(7,25,fU 4422 4423 b7),(4422,9,[rc1 b7.ak]),(4423,25,[rc9 b7.aj])] (cA (cB (cI (cI (cB (cA (cB (cB (cB (cB (cF Tryz.f30))))))))))) Q:=by
 unfold rm at h
 refine Wp.block (Wp.seq ?_)
 obtain⟨hc5,h⟩:=ax h
 obtain⟨hc6,h⟩:=ax h
 refine Wp.bI hm hΓ [(7,ls ([(df b3 v9)])),(8,.row 35),(1008,ls (xC b7 b3 v9))] [1,3,5,6,7,8,9] [3,5,6,7,35,4423] (K':=[(1,.str v1),(3,.own 3 0),(5,.own 5 0),(6,.own 6 0),(7,.own 7 0),(8,vb v8),(9,vi v9)]) (L':=[(3,25,qc6 b3),(5,25,qc6 b5),(6,25,qc6 b6),(7,25,fU 35 4423 b7),(35,9,[rc1 (xC b7 b3 v9)]),(4423,25,[rc9 b7.aj])]) (ob:=[(Ip v9 b3)=true,(true=true->ck 1 [.str (df b3 v9)] 1 (ls ([(df b3 v9)]))/\aM (ls ([(df b3 v9)]))),(decide ((List.length b7.ak+List.length ([(df b3 v9)]:Ls))*(16+1)<=limit))=true,(gY [] aW b7.ak (List.flatMap aW ([(df b3 v9)]:Ls)) (List.length ([(df b3 v9)]:Ls)) (ls (xC b7 b3 v9))/\aM (ls (xC b7 b3 v9)))]) (by kernel_rfl) (ai.cons hc5 (ai.cons (fun _=>du (by kernel_rfl) rfl (by kernel_rfl) (aI _)) (ai.cons hc6 (ai.cons (iI rfl rfl (aI _)) ai.nil)))) (To.ah (Wp.seq ?_))
 obtain⟨hc4,h⟩:=ax h
 refine r0 [1,3,5,6,7,8,9,43] [3,5,6,7,35,4423] [(1,.str v1),(3,.own 3 0),(5,.own 5 0),(6,.own 6 0),(7,.own 7 0),(8,vb v8),(9,vi v9),(43,vb ((df b3 v9)==v1))] [(3,25,qc6 b3),(5,25,qc6 b5),(6,25,qc6 b6),(7,25,fU 35 4423 b7),(35,9,[rc1 (xC b7 b3 v9)]),(4423,25,[rc9 b7.aj])] (ai.cons hc4 ai.nil) (To.ah (cn h (fun h=>?_) (fun h=>?_)))
 ·refine Wp.seq (rg [1,3,5,6,7,8,9] [3,5,6,7,35,4423] [(1,.str v1),(3,.own 3 0),(5,.own 5 0),(6,.own 6 0),(7,.own 7 0),(8,vb true),(9,vi v9)] [(3,25,qc6 b3),(5,25,qc6 b5),(6,25,qc6 b6),(7,25,fU 35 4423 b7),(35,9,[rc1 (xC b7 b3 v9)]),(4423,25,[rc9 b7.aj])] (To.ah ?_))
  obtain⟨hc1,h⟩:=ax h
  refine rr [] [(3,rs8 [b5]),(4,rs8 (xx b7 b5))] [] [1,3,5,6,7,8,9] [3,5,6,7,35,48] [(1,.str v1),(3,.own 3 0),(5,.own 5 0),(6,.own 6 0),(7,.own 7 0),(8,vb true),(9,vi v9)] [(3,25,qc6 b3),(5,25,qc6 b5),(6,25,qc6 b6),(7,25,fU 35 48 b7),(35,9,[rc1 (xC b7 b3 v9)]),(48,25,[rc9 (xx b7 b5)])] [(Ln b5),_,(gY zx3 bY b7.aj (List.flatMap bY ([b5]:List (af))) (List.length ([b5]:List (af))) (rs8 (xx b7 b5))/\aM (rs8 (xx b7 b5)))] (ai.cons (du (by kernel_rfl) rfl (by kernel_rfl) (bg _)) (ai.cons hc1 (ai.cons (iI rfl rfl (bg _)) ai.nil))) (To.aR (nt [1,3,5,6,7,8,9] [3,5,6,7,35,48] [(35,4422),(48,4423)] [1,3,5,6,7,8,9] [3,5,6,7,4422,4423] [(1,.str v1),(3,.own 3 0),(5,.own 5 0),(6,.own 6 0),(7,.own 7 0),(8,vb true),(9,vi v9)] [(3,25,qc6 b3),(5,25,qc6 b5),(6,25,qc6 b6),(7,25,fU 4422 4423 b7),(4422,9,[rc1 (xC b7 b3 v9)]),(4423,25,[rc9 (xx b7 b5)])] ?_))
  cases h
  exact hQ
 ·obtain⟨hc2,h⟩:=ax h
  obtain⟨hc3,h⟩:=ax h
  refine Wp.bI hm hΓ [(7,rs8 ([(ex5 b3 v9)])),(8,.row 58),(1008,rs8 (JR b7 b3 v9))] [1,3,5,6,7,8,9] [3,5,6,7,35,58] (K':=[(1,.str v1),(3,.own 3 0),(5,.own 5 0),(6,.own 6 0),(7,.own 7 0),(8,vb v8),(9,vi v9)]) (L':=[(3,25,qc6 b3),(5,25,qc6 b5),(6,25,qc6 b6),(7,25,fU 35 58 b7),(35,9,[rc1 (xC b7 b3 v9)]),(58,25,[rc9 (JR b7 b3 v9)])]) (ob:=[(decide (ex6 v9 b3))=true,(true=true->ck 4 [vi ((ex5 b3 v9).av),.str ((ex5 b3 v9).aC),ls ((ex5 b3 v9).ak),tn4 ((ex5 b3 v9).aj)] 1 (rs8 ([(ex5 b3 v9)]))/\aM (rs8 ([(ex5 b3 v9)]))),(decide ((List.length b7.aj+List.length ([(ex5 b3 v9)]:List (af)))*(72+1)<=limit))=true,(gY zx3 bY b7.aj (List.flatMap bY ([(ex5 b3 v9)]:List (af))) (List.length ([(ex5 b3 v9)]:List (af))) (rs8 (JR b7 b3 v9))/\aM (rs8 (JR b7 b3 v9)))]) (by kernel_rfl) (ai.cons hc2 (ai.cons (fun _=>du (by kernel_rfl) rfl (by kernel_rfl) (bg _)) (ai.cons hc3 (ai.cons (iI rfl rfl (bg _)) ai.nil)))) (To.aR (nt [1,3,5,6,7,8,9] [3,5,6,7,35,58] [(35,4422),(58,4423)] [1,3,5,6,7,8,9] [3,5,6,7,4422,4423] [(1,.str v1),(3,.own 3 0),(5,.own 5 0),(6,.own 6 0),(7,.own 7 0),(8,vb v8),(9,vi v9)] [(3,25,qc6 b3),(5,25,qc6 b5),(6,25,qc6 b6),(7,25,fU 4422 4423 b7),(4422,9,[rc1 (xC b7 b3 v9)]),(4423,25,[rc9 (JR b7 b3 v9)])] ?_))
  cases h
  exact hQ
def iU(n:Nat)(v1:Bs)(b3:af)(b5:af)(b6:af):Nat->Bool->Int->af->Option (Bool×af)
 |0,_,_,_=>none
 |k+1,v8,v9,b7=>if(decide (v9<(List.length b3.ak:Int)))=true then((rm n v1 v8 v9 b3 b5 b6 b7).bind fun o1 =>
 iU n v1 b3 b5 b6 k o1.1 (IntKind.wrap .i64 (v9+1)) o1.2)
 else(some (v8,b7))
theorem Ee(n:Nat)(v1:Bs)(b3:af)(b5:af)(b6:af)(k:Nat):∀(v8:Bool)(v9:Int)(b7:af)(o:Bool×af),iU n v1 b3 b5 b6 k v8 v9 b7=some o->To 75 F0 w0 [(1,.str v1),(5,.own 5 0),(6,.own 6 0),(7,.own 7 0),(8,vb o.1)] [(5,25,qc6 b5),(6,25,qc6 b6),(7,25,fU 4422 4423 o.2),(4422,9,[rc1 o.2.ak]),(4423,25,[rc9 o.2.aj])] (.exit 0) Q->WL Tryz.prog 75 F0 w0 [(1,.str v1),(3,.own 3 0),(5,.own 5 0),(6,.own 6 0),(7,.own 7 0),(8,vb v8),(9,vi v9)] [(3,25,qc6 b3),(5,25,qc6 b5),(6,25,qc6 b6),(7,25,fU 4422 4423 b7),(4422,9,[rc1 b7.ak]),(4423,25,[rc9 b7.aj])] (cI (cI (cB (cA (cB (cB (cB (cB (cF Tryz.f30))))))))) Q:=by
 induction k with
 |zero=>intro v8 v9 b7 o h;cases h
 |succ k ih =>
  intro v8 v9 b7 o h hQ
  rw[iU] at h
  refine WL.round (Wp.seq (Wp.seq (rg [1,3,5,6,7,8,9,24] [3,5,6,7,4422,4423] [(1,.str v1),(3,.own 3 0),(5,.own 5 0),(6,.own 6 0),(7,.own 7 0),(8,vb v8),(9,vi v9),(24,vb (yF v9 b3))] [(3,25,qc6 b3),(5,25,qc6 b5),(6,25,qc6 b6),(7,25,fU 4422 4423 b7),(4422,9,[rc1 b7.ak]),(4423,25,[rc9 b7.aj])] (To.ah (cn h (fun h=>?_) (fun h=>?_))))))
  ·refine Wp.skip (To.ah (Wp.seq ?_))
   obtain⟨o1,ho1,h⟩:=au h
   refine kw [1,3,5,6,7,8,9] [3,5,6,7,4422,4423] [(1,.str v1),(3,.own 3 0),(5,.own 5 0),(6,.own 6 0),(7,.own 7 0),(8,vb v8),(9,vi v9)] [(3,25,qc6 b3),(5,25,qc6 b5),(6,25,qc6 b6),(7,25,fU 4422 4423 b7),(4422,9,[rc1 b7.ak]),(4423,25,[rc9 b7.aj])] (ER n v1 v8 v9 b3 b5 b6 b7 o1 ho1 (To.ah (rg [1,3,5,6,7,8,9] [3,5,6,7,4422,4423] [(1,.str v1),(3,.own 3 0),(5,.own 5 0),(6,.own 6 0),(7,.own 7 0),(8,vb o1.1),(Hf v9)] [(3,25,qc6 b3),(5,25,qc6 b5),(6,25,qc6 b6),(7,25,fU 4422 4423 o1.2),(4422,9,[rc1 o1.2.ak]),(4423,25,[rc9 o1.2.aj])] (kt [1,3,5,6,7,8,9] [3,5,6,7,4422,4423] [(1,.str v1),(3,.own 3 0),(5,.own 5 0),(6,.own 6 0),(7,.own 7 0),(8,vb o1.1),(Hf v9)] [(3,25,qc6 b3),(5,25,qc6 b5),(6,25,qc6 b6),(7,25,fU 4422 4423 o1.2),(4422,9,[rc1 o1.2.ak]),(4423,25,[rc9 o1.2.aj])] (To.again ?_)))))
   exact ih o1.1 (IntKind.wrap .i64 (v9+1)) o1.2 _ h hQ
  ·refine Wp.exit (To.aK (To.aK (kt [1,5,6,7,8] [5,6,7,4422,4423] [(1,.str v1),(5,.own 5 0),(6,.own 6 0),(7,.own 7 0),(8,vb v8)] [(5,25,qc6 b5),(6,25,qc6 b6),(7,25,fU 4422 4423 b7),(4422,9,[rc1 b7.ak]),(4423,25,[rc9 b7.aj])] ?_)))
   cases h
   exact hQ
def qZ(n:Nat)(v1:Bs)(v61:Bool)(b5:af)(b6:af)(b7:af):Option (af) :=
 if v61=true then(if(decide ((List.length b7.ak+List.length ([v1]:Ls))*(16+1)<=limit))=true then(if(decide ((List.length b7.aj+List.length ([b5]:List (af)))*(72+1)<=limit))=true then(some (af.mk b7.av b7.aC (b7.ak++([v1]:Ls)) (b7.aj++([b5]:List (af))))) else none) else none)
 else some b7
abbrev Ik(x0:af)(x1:Bs):=(x0.ak++([x1]:Ls))
theorem DU(n:Nat)(v1:Bs)(v61:Bool)(b5:af)(b6:af)(b7:af)(o:af)(h:qZ n v1 v61 b5 b6 b7=some o)(hQ:To 75 F0 w0 [(6,.own 6 0),(7,.own 7 0)] [(6,25,qc6 b6),(7,25,fU 4422 4423 o),(4422,9,[rc1 o.ak]),(4423,25,[rc9 o.aj])] .normal Q):Wp Tryz.prog 75 F0 w0 [(1,.str v1),(5,.own 5 0),(6,.own 6 0),(7,.own 7 0),(61,vb v61)] [(5,25,qc6 b5),(6,25,qc6 b6),(7,25,fU 4422 4423 b7),(4422,9,[rc1 b7.ak]),(4423,25,[rc9 b7.aj])] (cB (cA (cB (cB (cB (cB (cB (cF Tryz.f30)))))))) Q:=by
 unfold qZ at h
 refine cn h (fun h=>?_) (fun h=>?_)
 ·refine Wp.seq ?_
  obtain⟨hc3,h⟩:=ax h
  refine rr [] [(3,ls [v1]),(4,ls (Ik b7 v1))] [] [5,6,7] [5,6,7,66,4423] [(5,.own 5 0),(6,.own 6 0),(7,.own 7 0)] [(5,25,qc6 b5),(6,25,qc6 b6),(7,25,fU 66 4423 b7),(66,9,[rc1 (Ik b7 v1)]),(4423,25,[rc9 b7.aj])] [(ck 1 [.str v1] 1 (ls [v1])/\aM (ls [v1])),_,(gY [] aW b7.ak (List.flatMap aW ([v1]:Ls)) (List.length ([v1]:Ls)) (ls (Ik b7 v1))/\aM (ls (Ik b7 v1)))] (ai.cons (du (by kernel_rfl) rfl (by kernel_rfl) (aI _)) (ai.cons hc3 (ai.cons (iI rfl rfl (aI _)) ai.nil))) (To.ah ?_)
  obtain⟨hc2,h⟩:=ax h
  refine rr [] [(3,rs8 [b5]),(4,rs8 (xx b7 b5))] [] [6,7] [6,7,66,72] [(6,.own 6 0),(7,.own 7 0)] [(6,25,qc6 b6),(7,25,fU 66 72 b7),(66,9,[rc1 (Ik b7 v1)]),(72,25,[rc9 (xx b7 b5)])] [(Ln b5),_,(gY zx3 bY b7.aj (List.flatMap bY ([b5]:List (af))) (List.length ([b5]:List (af))) (rs8 (xx b7 b5))/\aM (rs8 (xx b7 b5)))] (ai.cons (du (by kernel_rfl) rfl (by kernel_rfl) (bg _)) (ai.cons hc2 (ai.cons (iI rfl rfl (bg _)) ai.nil))) (nt [6,7] [6,7,66,72] [(66,4422),(72,4423)] [6,7] [6,7,4422,4423] [(6,.own 6 0),(7,.own 7 0)] [(6,25,qc6 b6),(7,25,fU 4422 4423 b7),(4422,9,[rc1 (Ik b7 v1)]),(4423,25,[rc9 (xx b7 b5)])] ?_)
  cases h
  exact hQ
 ·refine Wp.skip (kt [6,7] [6,7,4422,4423] [(6,.own 6 0),(7,.own 7 0)] [(6,25,qc6 b6),(7,25,fU 4422 4423 b7),(4422,9,[rc1 b7.ak]),(4423,25,[rc9 b7.aj])] ?_)
  cases h
  exact hQ
def dK(n:Nat)(a0:af)(a1:Bs)(a2:af):Option (af) :=
 if(bif (a0.av != 0) then(a0.av != 3) else false)=true then some a0
 else((iU n a1 a0 a2 (af.mk 0 [] [] []) n false 0 (af.mk 3 [] [] [])).bind fun o1 =>
 (qZ n a1 (!o1.1) a2 (af.mk 0 [] [] []) o1.2).bind fun o2 =>
 some o2)
abbrev RJ(x0:af):=(bif (x0.av != 0) then(x0.av != 3) else false)
theorem eu(n:Nat)(a0:af)(a1:Bs)(a2:af)(r:af)(h:dK n a0 a1 a2=some r):aJ Tryz.prog 30 [.agg (qc6 a0),.str a1,.agg (qc6 a2)] (.agg (qc6 r)):=by
 unfold dK at h
 refine xo Tryz.f30 rfl fun F0 w0 _=>?_
 refine Wp.seq (rg [1,3,5,6] [3,5,6] [(1,.str a1),(3,.own 3 0),(5,.own 5 0),(6,.own 6 0)] [(3,25,qc6 a0),(5,25,qc6 a2),(6,25,[vi 0,.str [],.val (.slice none 0 0),.val (.slice none 0 0)])] (To.ah (Wp.seq (Wp.seq (rg [1,3,5,6,17] [3,5,6] [(1,.str a1),(3,.own 3 0),(5,.own 5 0),(6,.own 6 0),(17,vb (RJ a0))] [(3,25,qc6 a0),(5,25,qc6 a2),(6,25,[vi 0,.str [],.val (.slice none 0 0),.val (.slice none 0 0)])] (To.ah (cn h (fun h=>?_) (fun h=>?_))))))))
 ·refine Wp.seq (rg [6] [6] [(6,.own 6 0)] [(6,25,qc6 a0)] (To.ah (Wp.ret (To.aA ?_))))
  cases h
  exact To.done hΓ (by kernel_rfl)
 ·refine Wp.skip (To.ah (Wp.seq (rg [1,3,5,6,7] [3,5,6,7] [(1,.str a1),(3,.own 3 0),(5,.own 5 0),(6,.own 6 0),(7,.own 7 0)] [(3,25,qc6 a0),(5,25,qc6 a2),(6,25,[vi 0,.str [],.val (.slice none 0 0),.val (.slice none 0 0)]),(7,25,[vi 3,.str [],.val (.slice none 0 0),.val (.slice none 0 0)])] (To.ah (Wp.seq (rg [1,3,5,6,7,8] [3,5,6,7] [(1,.str a1),(3,.own 3 0),(5,.own 5 0),(6,.own 6 0),(7,.own 7 0),(8,vb false)] [(3,25,qc6 a0),(5,25,qc6 a2),(6,25,[vi 0,.str [],.val (.slice none 0 0),.val (.slice none 0 0)]),(7,25,[vi 3,.str [],.val (.slice none 0 0),.val (.slice none 0 0)])] (To.ah (Wp.seq (Wp.seq (rg [1,3,5,6,7,8,9] [3,5,6,7] [(1,.str a1),(3,.own 3 0),(5,.own 5 0),(6,.own 6 0),(7,.own 7 0),(8,vb false),(9,vi 0)] [(3,25,qc6 a0),(5,25,qc6 a2),(6,25,[vi 0,.str [],.val (.slice none 0 0),.val (.slice none 0 0)]),(7,25,[vi 3,.str [],.val (.slice none 0 0),.val (.slice none 0 0)])] ?_))))))))))
  refine To.ah (Wp.block ?_)
  obtain⟨o1,ho1,h⟩:=au h
  refine kw [1,3,5,6,7,8,9] [3,5,6,7] [(1,.str a1),(3,.own 3 0),(5,.own 5 0),(6,.own 6 0),(7,.own 7 0),(8,vb false),(9,vi 0)] [(3,25,qc6 a0),(5,25,qc6 a2),(6,25,[vi 0,.str [],.val (.slice none 0 0),.val (.slice none 0 0)]),(7,25,[vi 3,.str [],.val (.slice none 0 0),.val (.slice none 0 0)])] (Wp.pre (St.rK 7 2 4422 9 (aI _) (by decide) (by kernel_rfl) (L':=[(3,25,qc6 a0),(5,25,qc6 a2),(6,25,[vi 0,.str [],.val (.slice none 0 0),.val (.slice none 0 0)]),(7,25,[vi 3,.str [],.row 4422,.val (.slice none 0 0)])]) (by kernel_rfl)) (kw [1,3,5,6,7,8,9] [3,5,6,7,4422] [(1,.str a1),(3,.own 3 0),(5,.own 5 0),(6,.own 6 0),(7,.own 7 0),(8,vb false),(9,vi 0)] [(3,25,qc6 a0),(5,25,qc6 a2),(6,25,[vi 0,.str [],.val (.slice none 0 0),.val (.slice none 0 0)]),(7,25,[vi 3,.str [],.row 4422,.val (.slice none 0 0)]),(4422,9,[rc1 []])] (Wp.pre (St.rK 7 3 4423 25 (bg _) (by decide) (by kernel_rfl) (L':=[(3,25,qc6 a0),(5,25,qc6 a2),(6,25,[vi 0,.str [],.val (.slice none 0 0),.val (.slice none 0 0)]),(7,25,[vi 3,.str [],.row 4422,.row 4423]),(4422,9,[rc1 []])]) (by kernel_rfl)) (kw [1,3,5,6,7,8,9] [3,5,6,7,4422,4423] [(1,.str a1),(3,.own 3 0),(5,.own 5 0),(6,.own 6 0),(7,.own 7 0),(8,vb false),(9,vi 0)] [(3,25,qc6 a0),(5,25,qc6 a2),(6,25,[vi 0,.str [],.val (.slice none 0 0),.val (.slice none 0 0)]),(7,25,[vi 3,.str [],.row 4422,.row 4423]),(4422,9,[rc1 []]),(4423,25,[rc9 []])] (Wp.weak (K':=[(1,.str a1),(3,.own 3 0),(5,.own 5 0),(6,.own 6 0),(7,.own 7 0),(8,vb false),(9,vi 0)]) (L':=[(3,25,qc6 a0),(5,25,qc6 a2),(6,25,[vi 0,.str [],ls [],tn4 []]),(7,25,[vi 3,.str [],.row 4422,.row 4423]),(4422,9,[rc1 []]),(4423,25,[rc9 []])]) (.cons (.refl _) (.cons (.refl _) (.cons (.refl _) (.cons (.refl _) (.cons (.refl _) (.cons (.refl _) (.cons (.refl _) .nil))))))) (.cons (.cons (.refl _) (.cons (.refl _) (.cons (.refl _) (.cons (.refl _) .nil)))) (.cons (.cons (.refl _) (.cons (.refl _) (.cons (.refl _) (.cons (.refl _) .nil)))) (.cons (.cons (.refl _) (.cons (.refl _) (.cons (.zero _ _) (.cons (.bu _ _ _) .nil)))) (.cons (.cons (.refl _) (.cons (.refl _) (.cons (.refl _) (.cons (.refl _) .nil)))) (.cons (.cons (.refl _) .nil) (.cons (.cons (.refl _) .nil) .nil)))))) (Wp.bE (Ee n a1 a0 a2 zx3 n false 0 (af.mk 3 [] [] []) o1 ho1 (To.aY (To.ah (Wp.seq (Wp.seq ?_)))))))))))
  refine rg [1,5,6,7,61] [5,6,7,4422,4423] [(1,.str a1),(5,.own 5 0),(6,.own 6 0),(7,.own 7 0),(61,vb (!o1.1))] [(5,25,qc6 a2),(6,25,[vi 0,.str [],ls [],tn4 []]),(7,25,fU 4422 4423 o1.2),(4422,9,[rc1 o1.2.ak]),(4423,25,[rc9 o1.2.aj])] (To.ah ?_)
  obtain⟨o2,ho2,h⟩:=au h
  refine kw [1,5,6,7,61] [5,6,7,4422,4423] [(1,.str a1),(5,.own 5 0),(6,.own 6 0),(7,.own 7 0),(61,vb (!o1.1))] [(5,25,qc6 a2),(6,25,[vi 0,.str [],ls [],tn4 []]),(7,25,fU 4422 4423 o1.2),(4422,9,[rc1 o1.2.ak]),(4423,25,[rc9 o1.2.aj])] (DU n a1 (!o1.1) a2 zx3 o1.2 o2 ho2 (To.ah (Wp.seq (rg [6] [6,4422,4423] [(6,.own 6 0)] [(6,25,fU 4422 4423 o2),(4422,9,[rc1 o2.ak]),(4423,25,[rc9 o2.aj])] (To.ah (Wp.ret (To.pre (St.settle (ks:=[4422,4423]) (kk:=[6]) (kl:=[6,4422,4423]) (K':=[(6,.own 6 0)]) (L':=[(6,25,fU 4422 4423 o2),(4422,9,[rc2 o2.ak]),(4423,25,[iY o2.aj])]) (by kernel_rfl)) (To.pre (St.uS [6] (L':=[(6,25,OD o2),(4422,9,[rc2 o2.ak]),(4423,25,[iY o2.aj])]) (by kernel_rfl)) (To.weak (K':=[(6,.own 6 0)]) (L':=[(6,25,qc6 o2),(4422,9,[rc2 o2.ak]),(4423,25,[iY o2.aj])]) (.cons (.refl _) .nil) (.cons (.cons (.refl _) (.cons (.refl _) (.cons (.refl _) (.cons (.close _ _ _ _) .nil)))) (.cons (.cons (.refl _) .nil) (.cons (.cons (.refl _) .nil) .nil))) ?_)))))))))
  cases h
  exact To.done hΓ (by kernel_rfl)
def j5(n:Nat)(v1:Bs)(b2:af):Nat->Int->af->Option (Sum (af) (Bool×af))
 |0,_,_=>none
 |k+1,v6,b4=>if(decide (v6<(List.length b2.ak:Int)))=true then(if(decide (0<=v6/\v6<(List.length b2.ak:Int)))=true then(if(((b2.ak)[Int.toNat v6]?.getD [])==v1)=true then(if(decide (0<=v6/\v6<(List.length b2.aj:Int)))=true then(some (.inr (true,((b2.aj)[Int.toNat v6]?.getD (af.mk 0 [] [] []))))) else none)
 else(j5 n v1 b2 k (IntKind.wrap .i64 (v6+1)) b4)) else none)
 else(some (.inl b4))
theorem Gj(n:Nat)(v1:Bs)(b2:af)(k:Nat):∀(v6:Int)(b4:af)(o:Sum (af) (Bool×af)),j5 n v1 b2 k v6 b4=some o->(Sum.elim (fun s=>To 30 F0 w0 [(4,.own 4 0)] [(4,25,qc6 s)] (.exit 0) Q) (fun s=>To 30 F0 w0 [(4,.own 4 0),(5,vb s.1)] [(4,25,qc6 s.2)] .ret Q)) o->WL Tryz.prog 30 F0 w0 [(1,.str v1),(2,.own 2 0),(4,.own 4 0),(6,vi v6)] [(2,25,qc6 b2),(4,25,qc6 b4)] (cI (cI (cB (cT (cB (cA (cB (cF Tryz.f21)))))))) Q:=by
 induction k with
 |zero=>intro v6 b4 o h;cases h
 |succ k ih =>
  intro v6 b4 o h hQ
  rw[j5] at h
  refine WL.round (Wp.seq (Wp.seq (rg [1,2,4,6,14] [2,4] [(1,.str v1),(2,.own 2 0),(4,.own 4 0),(6,vi v6),(14,vb (yF v6 b2))] [(2,25,qc6 b2),(4,25,qc6 b4)] (To.ah (cn h (fun h=>?_) (fun h=>?_))))))
  ·refine Wp.skip (To.ah (Wp.seq (Wp.block (Wp.seq ?_))))
   obtain⟨hc2,h⟩:=ax h
   refine r0 [1,2,4,6,23] [2,4] [(1,.str v1),(2,.own 2 0),(4,.own 4 0),(6,vi v6),(23,vb ((df b2 v6)==v1))] [(2,25,qc6 b2),(4,25,qc6 b4)] (ai.cons hc2 ai.nil) (To.ah (cn h (fun h=>?_) (fun h=>?_)))
   ·refine Wp.seq ?_
    obtain⟨hc1,h⟩:=ax h
    refine r0 [4,5] [4] [(4,.own 4 0),(5,vb true)] [(4,25,[vi ((ex5 b2 v6).av),.str ((ex5 b2 v6).aC),ls ((ex5 b2 v6).ak),tn4 ((ex5 b2 v6).aj)])] (ai.cons hc1 ai.nil) (To.ah (Wp.ret (To.aP (To.aA (To.aA ?_)))))
    cases h
    exact hQ
   ·refine Wp.skip (To.aR (To.ah (rg [1,2,4,6] [2,4] [(1,.str v1),(2,.own 2 0),(4,.own 4 0),(tZ v6)] [(2,25,qc6 b2),(4,25,qc6 b4)] (kt [1,2,4,6] [2,4] [(1,.str v1),(2,.own 2 0),(4,.own 4 0),(tZ v6)] [(2,25,qc6 b2),(4,25,qc6 b4)] (To.again ?_)))))
    exact ih (IntKind.wrap .i64 (v6+1)) b4 _ h hQ
  ·refine Wp.exit (To.aK (To.aK (kt [4] [4] [(4,.own 4 0)] [(4,25,qc6 b4)] ?_)))
   cases h
   exact hQ
def ta(n:Nat)(v1:Bs)(v9:Bool)(b2:af)(b4:af):Option (Sum (af) (Bool×af)) :=
 if v9=true then((j5 n v1 b2 n 0 b4).bind fun o1 =>
 (Sum.elim (fun o1=>some (.inl o1)) (fun o1=>some (.inr (o1.1,o1.2)))) o1)
 else(some (.inl b4))
theorem Gx(n:Nat)(v1:Bs)(v9:Bool)(b2:af)(b4:af)(o:Sum (af) (Bool×af))(h:ta n v1 v9 b2 b4=some o)(hQ:(Sum.elim (fun s=>To 30 F0 w0 [(4,.own 4 0)] [(4,25,qc6 s)] .normal Q) (fun s=>To 30 F0 w0 [(4,.own 4 0),(5,vb s.1)] [(4,25,qc6 s.2)] .ret Q)) o):Wp Tryz.prog 30 F0 w0 [(1,.str v1),(2,.own 2 0),(4,.own 4 0),(9,vb v9)] [(2,25,qc6 b2),(4,25,qc6 b4)] (cB (cA (cB (cF Tryz.f21)))) Q:=by
 unfold ta at h
 refine cn h (fun h=>?_) (fun h=>?_)
 ·refine Wp.seq (rg [1,2,4,6] [2,4] [(1,.str v1),(2,.own 2 0),(4,.own 4 0),(6,vi 0)] [(2,25,qc6 b2),(4,25,qc6 b4)] (To.ah (Wp.block ?_)))
  obtain⟨o1,ho1,h⟩:=au h
  refine kw [1,2,4,6] [2,4] [(1,.str v1),(2,.own 2 0),(4,.own 4 0),(6,vi 0)] [(2,25,qc6 b2),(4,25,qc6 b4)] (Wp.bE (Gj n v1 b2 n 0 b4 o1 ho1 ?_))
  rcases o1 with o1|o1
  ·replace h:=cv h
   refine To.aY (kt [4] [4] [(4,.own 4 0)] [(4,25,qc6 o1)] ?_)
   cases h
   exact hQ
  ·replace h:=cy h
   refine To.aP (kt [4,5] [4] [(4,.own 4 0),(5,vb o1.1)] [(4,25,qc6 o1.2)] ?_)
   cases h
   exact hQ
 ·refine Wp.skip (kt [4] [4] [(4,.own 4 0)] [(4,25,qc6 b4)] ?_)
  cases h
  exact hQ
def gZ(n:Nat)(a0:af)(a1:Bs):Option (af×Bool) :=
 (ta n a1 (a0.av==3) a0 (af.mk 0 [] [] [])).bind fun o1 =>
 (Sum.elim (fun o1=>some ((af.mk 0 [] [] []),false)) (fun o1=>some (o1.2,o1.1))) o1
theorem iO(n:Nat)(a0:af)(a1:Bs)(r:af×Bool)(h:gZ n a0 a1=some r):aJ Tryz.prog 21 [.agg (qc6 a0),.str a1] (.tup [.agg (qc6 r.1),vb r.2]):=by
 unfold gZ at h
 refine xo Tryz.f21 rfl fun F0 w0 _=>?_
 refine Wp.seq (rg [1,2,4] [2,4] [(1,.str a1),(2,.own 2 0),(4,.own 4 0)] [(2,25,qc6 a0),(4,25,[vi 0,.str [],.val (.slice none 0 0),.val (.slice none 0 0)])] (To.ah (Wp.seq (Wp.seq (rg [1,2,4,9] [2,4] [(1,.str a1),(2,.own 2 0),(4,.own 4 0),(9,vb (a0.av==3))] [(2,25,qc6 a0),(4,25,[vi 0,.str [],.val (.slice none 0 0),.val (.slice none 0 0)])] (To.ah ?_))))))
 obtain⟨o1,ho1,h⟩:=au h
 refine kw [1,2,4,9] [2,4] [(1,.str a1),(2,.own 2 0),(4,.own 4 0),(9,vb (a0.av==3))] [(2,25,qc6 a0),(4,25,[vi 0,.str [],.val (.slice none 0 0),.val (.slice none 0 0)])] (Wp.weak (K':=[(1,.str a1),(2,.own 2 0),(4,.own 4 0),(9,vb (a0.av==3))]) (L':=[(2,25,qc6 a0),(4,25,[vi 0,.str [],ls [],tn4 []])]) (.cons (.refl _) (.cons (.refl _) (.cons (.refl _) (.cons (.refl _) .nil)))) (.cons (.cons (.refl _) (.cons (.refl _) (.cons (.refl _) (.cons (.refl _) .nil)))) (.cons (.cons (.refl _) (.cons (.refl _) (.cons (.zero _ _) (.cons (.bu _ _ _) .nil)))) .nil)) (Gx n a1 (a0.av==3) a0 zx3 o1 ho1 ?_))
 rcases o1 with o1|o1
 ·replace h:=cv h
  refine To.ah (Wp.seq (rg [4,5] [4] [(4,.own 4 0),(5,vb false)] [(4,25,[vi 0,.str [],.val (.slice none 0 0),.val (.slice none 0 0)])] (To.ah (Wp.ret (To.weak (K':=[(4,.own 4 0),(5,vb false)]) (L':=[(4,25,[vi 0,.str [],ls [],tn4 []])]) (.cons (.refl _) (.cons (.refl _) .nil)) (.cons (.cons (.refl _) (.cons (.refl _) (.cons (.zero _ _) (.cons (.bu _ _ _) .nil)))) .nil) ?_)))))
  cases h
  exact To.done hΓ (by kernel_rfl)
 ·replace h:=cy h
  refine To.aA ?_
  cases h
  exact To.done hΓ (by kernel_rfl)
def fN(R_ref08_Sorted:af->Option (af))(n:Nat)(v4:Ls)(b1:af)(b2:af):Nat->Int->af->Option (af)
 |0,_,_=>none
 |k+1,v5,b3=>if(decide (v5<(List.length v4:Int)))=true then(if(decide (0<=v5/\v5<(List.length v4:Int)))=true then((gZ n b1 ((v4)[Int.toNat v5]?.getD [])).bind fun r2 =>
 if(decide (0<=v5/\v5<(List.length v4:Int)))=true then(if(decide ((List.length b3.ak+List.length ([((v4)[Int.toNat v5]?.getD [])]:Ls))*(16+1)<=limit))=true then((R_ref08_Sorted r2.1).bind fun r3 =>
 if(decide ((List.length b3.aj+List.length ([r3]:List (af)))*(72+1)<=limit))=true then(fN R_ref08_Sorted n v4 b1 b2 k (IntKind.wrap .i64 (v5+1)) (af.mk b3.av b3.aC (b3.ak++([((v4)[Int.toNat v5]?.getD [])]:Ls)) (b3.aj++([r3]:List (af))))) else none) else none) else none) else none)
 else some b3
abbrev QX(R_ref08_Sorted:af->Option (af)):Prop:=∀(a0:af)(r:af),R_ref08_Sorted a0=some r->aJ Tryz.prog 31 [.agg [vi a0.av,.str a0.aC,ls a0.ak,tn4 a0.aj]] (.agg [vi r.av,.str r.aC,ls r.ak,tn4 r.aj])
abbrev jF(x0:Ls)(x1:Int):=([((x0)[Int.toNat x1]?.getD [])]:Ls)
abbrev yl(x0:Ls)(x1:Int):=([((x0)[Int.toNat x1]?.getD [])])
theorem zT(R_ref08_Sorted:af->Option (af))(hR_ref08_Sorted:QX R_ref08_Sorted)(n:Nat)(v4:Ls)(b1:af)(b2:af)(k:Nat):∀(v5:Int)(b3:af)(o:af),fN R_ref08_Sorted n v4 b1 b2 k v5 b3=some o->To 71 F0 w0 [(2,.own 2 0),(3,.own 3 0)] [(2,25,qc6 b2),(3,25,fU 4182 4183 o),(4182,9,[rc1 o.ak]),(4183,25,[rc9 o.aj])] (.exit 0) Q->WL Tryz.prog 71 F0 w0 [(1,.own 1 0),(2,.own 2 0),(3,.own 3 0),(4,ls v4),(5,vi v5)] [(1,25,qc6 b1),(2,25,qc6 b2),(3,25,fU 4182 4183 b3),(4182,9,[rc1 b3.ak]),(4183,25,[rc9 b3.aj])] (cI (cI (cB (cA (cB (cT (cB (cA (cB (cB (cF Tryz.f31))))))))))) Q:=by
 induction k with
 |zero=>intro v5 b3 o h;cases h
 |succ k ih =>
  intro v5 b3 o h hQ
  rw[fN] at h
  refine WL.round (Wp.seq (Wp.seq (rg [1,2,3,4,5,23] [1,2,3,4182,4183] [(1,.own 1 0),(2,.own 2 0),(3,.own 3 0),(4,ls v4),(5,vi v5),(23,vb (ex4 v5 v4))] [(1,25,qc6 b1),(2,25,qc6 b2),(3,25,fU 4182 4183 b3),(4182,9,[rc1 b3.ak]),(4183,25,[rc9 b3.aj])] (To.ah (cn h (fun h=>?_) (fun h=>?_))))))
  ·refine Wp.skip (To.ah (Wp.seq (Wp.block (Wp.seq ?_))))
   obtain⟨hc7,h⟩:=ax h
   obtain⟨r2,hr2,h⟩:=au h
   refine Wp.bI hm hΓ [(5,.tup [.agg (qc6 r2.1),vb r2.2])] [1,2,3,4,5,6] [1,2,3,6,4182,4183] (K':=[(1,.own 1 0),(2,.own 2 0),(3,.own 3 0),(4,ls v4),(5,vi v5),(6,.own 6 0)]) (L':=[(1,25,qc6 b1),(2,25,qc6 b2),(3,25,fU 4182 4183 b3),(6,25,qc6 r2.1),(4182,9,[rc1 b3.ak]),(4183,25,[rc9 b3.aj])]) (ob:=[(zw v5 v4)=true,(true=true->CX Tryz.prog 21 [.agg (qc6 b1),.str ((v4)[Int.toNat v5]?.getD [])] (.tup [.agg (qc6 r2.1),vb r2.2]))]) (by kernel_rfl) (ai.cons hc7 (ai.cons (fun _=>cx (iO n b1 ((v4)[Int.toNat v5]?.getD []) _ hr2)) ai.nil)) (To.ah (Wp.seq ?_))
   obtain⟨hc5,h⟩:=ax h
   obtain⟨hc6,h⟩:=ax h
   refine Wp.bI hm hΓ [(6,ls (yl v4 v5)),(7,.row 42),(1007,ls (b3.ak++(jF v4 v5)))] [1,2,3,4,5,6] [1,2,3,6,42,4183] (K':=[(1,.own 1 0),(2,.own 2 0),(3,.own 3 0),(4,ls v4),(5,vi v5),(6,.own 6 0)]) (L':=[(1,25,qc6 b1),(2,25,qc6 b2),(3,25,fU 42 4183 b3),(6,25,qc6 r2.1),(42,9,[rc1 (b3.ak++(jF v4 v5))]),(4183,25,[rc9 b3.aj])]) (ob:=[(zw v5 v4)=true,(true=true->ck 1 [.str ((v4)[Int.toNat v5]?.getD [])] 1 (ls (yl v4 v5))/\aM (ls (yl v4 v5))),(decide ((List.length b3.ak+List.length (jF v4 v5))*(16+1)<=limit))=true,(gY [] aW b3.ak (List.flatMap aW (jF v4 v5)) (List.length (jF v4 v5)) (ls (b3.ak++(jF v4 v5)))/\aM (ls (b3.ak++(jF v4 v5))))]) (by kernel_rfl) (ai.cons hc5 (ai.cons (fun _=>du (by kernel_rfl) rfl (by kernel_rfl) (aI _)) (ai.cons hc6 (ai.cons (iI rfl rfl (aI _)) ai.nil)))) (To.ah ?_)
   obtain⟨r3,hr3,h⟩:=au h
   obtain⟨hc4,h⟩:=ax h
   refine Wp.bI hm hΓ [(3,.agg (qc6 r3)),(4,rs8 [r3]),(5,.row 49),(1005,rs8 (b3.aj++([r3]:List (af))))] [1,2,3,4,5] [1,2,3,42,49] (K':=[(1,.own 1 0),(2,.own 2 0),(3,.own 3 0),(4,ls v4),(5,vi v5)]) (L':=[(1,25,qc6 b1),(2,25,qc6 b2),(3,25,fU 42 49 b3),(42,9,[rc1 (b3.ak++(jF v4 v5))]),(49,25,[rc9 (b3.aj++([r3]:List (af)))])]) (ob:=[(true=true->CX Tryz.prog 31 [.agg (qc6 r2.1)] (.agg (qc6 r3))),(true=true->ck 4 (qc6 r3) 1 (rs8 [r3])/\aM (rs8 [r3])),(decide ((List.length b3.aj+List.length ([r3]:List (af)))*(72+1)<=limit))=true,(gY zx3 bY b3.aj (List.flatMap bY ([r3]:List (af))) (List.length ([r3]:List (af))) (rs8 (b3.aj++([r3]:List (af))))/\aM (rs8 (b3.aj++([r3]:List (af)))))]) (by kernel_rfl) (ai.cons (fun _=>cx (hR_ref08_Sorted r2.1 _ hr3)) (ai.cons (fun _=>du (by kernel_rfl) rfl (by kernel_rfl) (bg _)) (ai.cons hc4 (ai.cons (iI rfl rfl (bg _)) ai.nil)))) (To.aR (To.ah (rg [1,2,3,4,5] [1,2,3,42,49] [(1,.own 1 0),(2,.own 2 0),(3,.own 3 0),(4,ls v4),(ex3 v5)] [(1,25,qc6 b1),(2,25,qc6 b2),(3,25,fU 42 49 b3),(42,9,[rc1 (b3.ak++(jF v4 v5))]),(49,25,[rc9 (b3.aj++([r3]:List (af)))])] (nt [1,2,3,4,5] [1,2,3,42,49] [(42,4182),(49,4183)] [1,2,3,4,5] [1,2,3,4182,4183] [(1,.own 1 0),(2,.own 2 0),(3,.own 3 0),(4,ls v4),(ex3 v5)] [(1,25,qc6 b1),(2,25,qc6 b2),(3,25,fU 4182 4183 b3),(4182,9,[rc1 (b3.ak++(jF v4 v5))]),(4183,25,[rc9 (b3.aj++([r3]:List (af)))])] (To.again ?_)))))
   exact ih (IntKind.wrap .i64 (v5+1)) (af.mk b3.av b3.aC (b3.ak++(jF v4 v5)) (b3.aj++([r3]:List (af)))) _ h hQ
  ·refine Wp.exit (To.aK (To.aK (kt [2,3] [2,3,4182,4183] [(2,.own 2 0),(3,.own 3 0)] [(2,25,qc6 b2),(3,25,fU 4182 4183 b3),(4182,9,[rc1 b3.ak]),(4183,25,[rc9 b3.aj])] ?_)))
   cases h
   exact hQ
def fP(R_ref08_Sorted:af->Option (af))(n:Nat)(b1:af)(b2:af):Nat->Int->af->Option (af)
 |0,_,_=>none
 |k+1,v8,b3=>if(decide (v8<(List.length b1.aj:Int)))=true then(if(decide (0<=v8/\v8<(List.length b1.aj:Int)))=true then((R_ref08_Sorted ((b1.aj)[Int.toNat v8]?.getD (af.mk 0 [] [] []))).bind fun r3 =>
 if(decide ((List.length b3.aj+List.length ([r3]:List (af)))*(72+1)<=limit))=true then(fP R_ref08_Sorted n b1 b2 k (IntKind.wrap .i64 (v8+1)) (af.mk b3.av b3.aC b3.ak (b3.aj++([r3]:List (af))))) else none) else none)
 else some b3
theorem Au(R_ref08_Sorted:af->Option (af))(hR_ref08_Sorted:QX R_ref08_Sorted)(n:Nat)(b1:af)(b2:af)(k:Nat):∀(v8:Int)(b3:af)(o:af),fP R_ref08_Sorted n b1 b2 k v8 b3=some o->To 71 F0 w0 [(2,.own 2 0),(3,.own 3 0)] [(2,25,qc6 b2),(3,25,oH 4183 o),(4183,25,[rc9 o.aj])] (.exit 2) Q->WL Tryz.prog 71 F0 w0 [(1,.own 1 0),(2,.own 2 0),(3,.own 3 0),(8,vi v8)] [(1,25,qc6 b1),(2,25,qc6 b2),(3,25,oH 4183 b3),(4183,25,[rc9 b3.aj])] (cI (cI (cB (cA (cB (cB (cB (cF Tryz.f31)))))))) Q:=by
 induction k with
 |zero=>intro v8 b3 o h;cases h
 |succ k ih =>
  intro v8 b3 o h hQ
  rw[fP] at h
  refine WL.round (Wp.seq (Wp.seq (rg [1,2,3,8,56] [1,2,3,4183] [(1,.own 1 0),(2,.own 2 0),(3,.own 3 0),(8,vi v8),(56,vb (ex8 v8 b1))] [(1,25,qc6 b1),(2,25,qc6 b2),(3,25,oH 4183 b3),(4183,25,[rc9 b3.aj])] (To.ah (cn h (fun h=>?_) (fun h=>?_))))))
  ·refine Wp.skip (To.ah (Wp.seq (Wp.block ?_)))
   obtain⟨hc4,h⟩:=ax h
   obtain⟨r3,hr3,h⟩:=au h
   obtain⟨hc5,h⟩:=ax h
   refine Wp.bI hm hΓ [(7,.agg (qc6 r3)),(8,rs8 [r3]),(9,.row 68),(1009,rs8 (b3.aj++([r3]:List (af))))] [1,2,3,8] [1,2,3,68] (K':=[(1,.own 1 0),(2,.own 2 0),(3,.own 3 0),(8,vi v8)]) (L':=[(1,25,qc6 b1),(2,25,qc6 b2),(3,25,oH 68 b3),(68,25,[rc9 (b3.aj++([r3]:List (af)))])]) (ob:=[(decide (ex6 v8 b1))=true,(true=true->CX Tryz.prog 31 [.agg [vi ((ex5 b1 v8).av),.str ((ex5 b1 v8).aC),ls ((ex5 b1 v8).ak),tn4 ((ex5 b1 v8).aj)]] (.agg (qc6 r3))),(true=true->ck 4 (qc6 r3) 1 (rs8 [r3])/\aM (rs8 [r3])),(decide ((List.length b3.aj+List.length ([r3]:List (af)))*(72+1)<=limit))=true,(gY zx3 bY b3.aj (List.flatMap bY ([r3]:List (af))) (List.length ([r3]:List (af))) (rs8 (b3.aj++([r3]:List (af))))/\aM (rs8 (b3.aj++([r3]:List (af)))))]) (by kernel_rfl) (ai.cons hc4 (ai.cons (fun _=>cx (hR_ref08_Sorted (ex5 b1 v8) _ hr3)) (ai.cons (fun _=>du (by kernel_rfl) rfl (by kernel_rfl) (bg _)) (ai.cons hc5 (ai.cons (iI rfl rfl (bg _)) ai.nil))))) (To.aR (To.ah (rg [1,2,3,8] [1,2,3,68] [(1,.own 1 0),(2,.own 2 0),(3,.own 3 0),(xE v8)] [(1,25,qc6 b1),(2,25,qc6 b2),(3,25,oH 68 b3),(68,25,[rc9 (b3.aj++([r3]:List (af)))])] (nt [1,2,3,8] [1,2,3,68] [(68,4183)] [1,2,3,8] [1,2,3,4183] [(1,.own 1 0),(2,.own 2 0),(3,.own 3 0),(xE v8)] [(1,25,qc6 b1),(2,25,qc6 b2),(3,25,oH 4183 b3),(4183,25,[rc9 (b3.aj++([r3]:List (af)))])] (To.again ?_)))))
   exact ih (IntKind.wrap .i64 (v8+1)) (af.mk b3.av b3.aC b3.ak (b3.aj++([r3]:List (af)))) _ h hQ
  ·refine Wp.exit (To.aK (To.aK (kt [2,3] [2,3,4183] [(2,.own 2 0),(3,.own 3 0)] [(2,25,qc6 b2),(3,25,oH 4183 b3),(4183,25,[rc9 b3.aj])] ?_)))
   cases h
   exact hQ
def ng(R_ref08_Sorted:af->Option (af))(n:Nat)(a0:af):Option (af) :=
 if(a0.av==3)=true then((jH n a0.ak).bind fun r1 =>
 (fN R_ref08_Sorted n r1 a0 (af.mk 0 [] [] []) n 0 (af.mk a0.av a0.aC [] [])).bind fun o2 =>
 some o2)
 else((fP R_ref08_Sorted n a0 (af.mk 0 [] [] []) n 0 (af.mk a0.av a0.aC [] [])).bind fun o3 =>
 some o3)
abbrev DX(x:af):List D:=[vi x.av,.str x.aC,.val (.slice none 0 0),.val (.slice none 0 0)]
abbrev Ul(k0:Nat)(x:af):List D:=[vi x.av,.str x.aC,.row k0,.val (.slice none 0 0)]
abbrev UA(k0:Nat)(x:af):List D:=[vi x.av,.str x.aC,.val (.slice none 0 0),.row k0]
theorem B7(R_ref08_Sorted:af->Option (af))(hR_ref08_Sorted:QX R_ref08_Sorted)(n:Nat)(a0:af)(r:af)(h:ng R_ref08_Sorted n a0=some r):aJ Tryz.prog 31 [.agg (qc6 a0)] (.agg (qc6 r)):=by
 unfold ng at h
 refine xo Tryz.f31 rfl fun F0 w0 _=>?_
 refine Wp.seq (rg [1,2] [1,2] [(1,.own 1 0),(2,.own 2 0)] [(1,25,qc6 a0),(2,25,[vi 0,.str [],.val (.slice none 0 0),.val (.slice none 0 0)])] (To.ah (Wp.seq (rg [1,2,3] [1,2,3] [(1,.own 1 0),(2,.own 2 0),(3,.own 3 0)] [(1,25,qc6 a0),(2,25,[vi 0,.str [],.val (.slice none 0 0),.val (.slice none 0 0)]),(3,25,DX a0)] (To.ah (Wp.seq (Wp.seq (rg [1,2,3,16] [1,2,3] [(1,.own 1 0),(2,.own 2 0),(3,.own 3 0),(16,vb (a0.av==3))] [(1,25,qc6 a0),(2,25,[vi 0,.str [],.val (.slice none 0 0),.val (.slice none 0 0)]),(3,25,DX a0)] (To.ah (cn h (fun h=>?_) (fun h=>?_)))))))))))
 ·refine Wp.seq ?_
  obtain⟨r1,hr1,h⟩:=au h
  refine rc [] 2 [1,2,3,4] [1,2,3] [(1,.own 1 0),(2,.own 2 0),(3,.own 3 0),(4,ls r1)] [(1,25,qc6 a0),(2,25,[vi 0,.str [],.val (.slice none 0 0),.val (.slice none 0 0)]),(3,25,DX a0)] (sJ n a0.ak _ hr1) (To.ah (Wp.seq (Wp.seq (rg [1,2,3,4,5] [1,2,3] [(1,.own 1 0),(2,.own 2 0),(3,.own 3 0),(4,ls r1),(5,vi 0)] [(1,25,qc6 a0),(2,25,[vi 0,.str [],.val (.slice none 0 0),.val (.slice none 0 0)]),(3,25,DX a0)] (To.ah (Wp.block ?_))))))
  obtain⟨o2,ho2,h⟩:=au h
  refine kw [1,2,3,4,5] [1,2,3] [(1,.own 1 0),(2,.own 2 0),(3,.own 3 0),(4,ls r1),(5,vi 0)] [(1,25,qc6 a0),(2,25,[vi 0,.str [],.val (.slice none 0 0),.val (.slice none 0 0)]),(3,25,DX a0)] (Wp.pre (St.rK 3 2 4182 9 (aI _) (by decide) (by kernel_rfl) (L':=[(1,25,qc6 a0),(2,25,[vi 0,.str [],.val (.slice none 0 0),.val (.slice none 0 0)]),(3,25,Ul 4182 a0)]) (by kernel_rfl)) (kw [1,2,3,4,5] [1,2,3,4182] [(1,.own 1 0),(2,.own 2 0),(3,.own 3 0),(4,ls r1),(5,vi 0)] [(1,25,qc6 a0),(2,25,[vi 0,.str [],.val (.slice none 0 0),.val (.slice none 0 0)]),(3,25,Ul 4182 a0),(4182,9,[rc1 []])] (Wp.pre (St.rK 3 3 4183 25 (bg _) (by decide) (by kernel_rfl) (L':=[(1,25,qc6 a0),(2,25,[vi 0,.str [],.val (.slice none 0 0),.val (.slice none 0 0)]),(3,25,fU 4182 4183 a0),(4182,9,[rc1 []])]) (by kernel_rfl)) (kw [1,2,3,4,5] [1,2,3,4182,4183] [(1,.own 1 0),(2,.own 2 0),(3,.own 3 0),(4,ls r1),(5,vi 0)] [(1,25,qc6 a0),(2,25,[vi 0,.str [],.val (.slice none 0 0),.val (.slice none 0 0)]),(3,25,fU 4182 4183 a0),(4182,9,[rc1 []]),(4183,25,[rc9 []])] (Wp.weak (K':=[(1,.own 1 0),(2,.own 2 0),(3,.own 3 0),(4,ls r1),(5,vi 0)]) (L':=[(1,25,qc6 a0),(2,25,[vi 0,.str [],ls [],tn4 []]),(3,25,fU 4182 4183 a0),(4182,9,[rc1 []]),(4183,25,[rc9 []])]) (.cons (.refl _) (.cons (.refl _) (.cons (.refl _) (.cons (.refl _) (.cons (.refl _) .nil))))) (.cons (.cons (.refl _) (.cons (.refl _) (.cons (.refl _) (.cons (.refl _) .nil)))) (.cons (.cons (.refl _) (.cons (.refl _) (.cons (.zero _ _) (.cons (.bu _ _ _) .nil)))) (.cons (.cons (.refl _) (.cons (.refl _) (.cons (.refl _) (.cons (.refl _) .nil)))) (.cons (.cons (.refl _) .nil) (.cons (.cons (.refl _) .nil) .nil))))) (Wp.bE (zT R_ref08_Sorted hR_ref08_Sorted n r1 a0 zx3 n 0 (af.mk a0.av a0.aC [] []) o2 ho2 (To.aY (To.ah (Wp.seq ?_))))))))))
  refine rg [2] [2,4182,4183] [(2,.own 2 0)] [(2,25,fU 4182 4183 o2),(4182,9,[rc1 o2.ak]),(4183,25,[rc9 o2.aj])] (To.ah (Wp.ret (To.aA (To.pre (St.settle (ks:=[4182,4183]) (kk:=[2]) (kl:=[2,4182,4183]) (K':=[(2,.own 2 0)]) (L':=[(2,25,fU 4182 4183 o2),(4182,9,[rc2 o2.ak]),(4183,25,[iY o2.aj])]) (by kernel_rfl)) (To.pre (St.uS [2] (L':=[(2,25,OD o2),(4182,9,[rc2 o2.ak]),(4183,25,[iY o2.aj])]) (by kernel_rfl)) (To.weak (K':=[(2,.own 2 0)]) (L':=[(2,25,qc6 o2),(4182,9,[rc2 o2.ak]),(4183,25,[iY o2.aj])]) (.cons (.refl _) .nil) (.cons (.cons (.refl _) (.cons (.refl _) (.cons (.refl _) (.cons (.close _ _ _ _) .nil)))) (.cons (.cons (.refl _) .nil) (.cons (.cons (.refl _) .nil) .nil))) ?_))))))
  cases h
  exact To.done hΓ (by kernel_rfl)
 ·refine Wp.skip (To.ah (Wp.seq (Wp.seq (rg [1,2,3,8] [1,2,3] [(1,.own 1 0),(2,.own 2 0),(3,.own 3 0),(8,vi 0)] [(1,25,qc6 a0),(2,25,[vi 0,.str [],.val (.slice none 0 0),.val (.slice none 0 0)]),(3,25,DX a0)] (To.ah (Wp.block ?_))))))
  obtain⟨o3,ho3,h⟩:=au h
  refine kw [1,2,3,8] [1,2,3] [(1,.own 1 0),(2,.own 2 0),(3,.own 3 0),(8,vi 0)] [(1,25,qc6 a0),(2,25,[vi 0,.str [],.val (.slice none 0 0),.val (.slice none 0 0)]),(3,25,DX a0)] (Wp.pre (St.rK 3 3 4183 25 (bg _) (by decide) (by kernel_rfl) (L':=[(1,25,qc6 a0),(2,25,[vi 0,.str [],.val (.slice none 0 0),.val (.slice none 0 0)]),(3,25,UA 4183 a0)]) (by kernel_rfl)) (kw [1,2,3,8] [1,2,3,4183] [(1,.own 1 0),(2,.own 2 0),(3,.own 3 0),(8,vi 0)] [(1,25,qc6 a0),(2,25,[vi 0,.str [],.val (.slice none 0 0),.val (.slice none 0 0)]),(3,25,UA 4183 a0),(4183,25,[rc9 []])] (Wp.weak (K':=[(1,.own 1 0),(2,.own 2 0),(3,.own 3 0),(8,vi 0)]) (L':=[(1,25,qc6 a0),(2,25,[vi 0,.str [],ls [],tn4 []]),(3,25,[vi a0.av,.str a0.aC,ls [],.row 4183]),(4183,25,[rc9 []])]) (.cons (.refl _) (.cons (.refl _) (.cons (.refl _) (.cons (.refl _) .nil)))) (.cons (.cons (.refl _) (.cons (.refl _) (.cons (.refl _) (.cons (.refl _) .nil)))) (.cons (.cons (.refl _) (.cons (.refl _) (.cons (.zero _ _) (.cons (.bu _ _ _) .nil)))) (.cons (.cons (.refl _) (.cons (.refl _) (.cons (.zero _ _) (.cons (.refl _) .nil)))) (.cons (.cons (.refl _) .nil) .nil)))) (Wp.bE (Au R_ref08_Sorted hR_ref08_Sorted n a0 zx3 n 0 (af.mk a0.av a0.aC [] []) o3 ho3 (To.aY (To.ah (Wp.seq (rg [2] [2,4183] [(2,.own 2 0)] [(2,25,oH 4183 o3),(4183,25,[rc9 o3.aj])] (To.ah (Wp.ret ?_)))))))))))
  refine To.pre (St.settle (ks:=[4183]) (kk:=[2]) (kl:=[2,4183]) (K':=[(2,.own 2 0)]) (L':=[(2,25,oH 4183 o3),(4183,25,[iY o3.aj])]) (by kernel_rfl)) (To.pre (St.uS [2] (L':=[(2,25,OD o3),(4183,25,[iY o3.aj])]) (by kernel_rfl)) (To.weak (K':=[(2,.own 2 0)]) (L':=[(2,25,qc6 o3),(4183,25,[iY o3.aj])]) (.cons (.refl _) .nil) (.cons (.cons (.refl _) (.cons (.refl _) (.cons (.refl _) (.cons (.close _ _ _ _) .nil)))) (.cons (.cons (.refl _) .nil) .nil)) ?_))
  cases h
  exact To.done hΓ (by kernel_rfl)
def dH:Nat->af->Option (af)
 |0=>fun _=>none
 |n+1=>ng (dH n) n
theorem oN(n:Nat):∀(a0:af)(r:af),dH n a0=some r->aJ Tryz.prog 31 [.agg (qc6 a0)] (.agg (qc6 r)):=by
 induction n with
 |zero=>intro a0 r h;cases h
 |succ n ih=>exact fun a0 r h=>B7 (dH n) ih n a0 r h
def eO(n:Nat)(a0:af)(a1:Bool):Option (af×Bool) :=
 if(bif (!a1) then true else(decide ((List.length a0.ak:Int)>32)))=true then(some ((af.mk 0 [] [] []),false))
 else((dH n (af.mk 3 a0.aC a0.ak a0.aj)).bind fun r1 =>
 some (r1,true))
theorem jK(n:Nat)(a0:af)(a1:Bool)(r:af×Bool)(h:eO n a0 a1=some r):aJ Tryz.prog 49 [.agg (qc6 a0),vb a1] (.tup [.agg (qc6 r.1),vb r.2]):=by
 unfold eO at h
 refine xo Tryz.f49 rfl fun F0 w0 _=>?_
 refine Wp.seq (rg [1,2,4] [2,4] [(1,vb a1),(2,.own 2 0),(4,.own 4 0)] [(2,25,qc6 a0),(4,25,[vi 0,.str [],.val (.slice none 0 0),.val (.slice none 0 0)])] (To.ah (Wp.seq (Wp.seq (rg [2,4,13] [2,4] [(2,.own 2 0),(4,.own 4 0),(13,vb (bif (!a1) then true else(decide ((List.length a0.ak:Int)>32))))] [(2,25,qc6 a0),(4,25,[vi 0,.str [],.val (.slice none 0 0),.val (.slice none 0 0)])] (To.ah (cn h (fun h=>?_) (fun h=>?_))))))))
 ·refine Wp.seq (rg [4,5] [4] [(4,.own 4 0),(5,vb false)] [(4,25,[vi 0,.str [],.val (.slice none 0 0),.val (.slice none 0 0)])] (To.ah (Wp.ret (To.aA (To.weak (K':=[(4,.own 4 0),(5,vb false)]) (L':=[(4,25,[vi 0,.str [],ls [],tn4 []])]) (.cons (.refl _) (.cons (.refl _) .nil)) (.cons (.cons (.refl _) (.cons (.refl _) (.cons (.zero _ _) (.cons (.bu _ _ _) .nil)))) .nil) ?_)))))
  cases h
  exact To.done hΓ (by kernel_rfl)
 ·refine Wp.skip (To.ah (Wp.seq (rg [2,4] [2,4] [(2,.own 2 0),(4,.own 4 0)] [(2,25,[vi 3,.str a0.aC,ls a0.ak,tn4 a0.aj]),(4,25,[vi 0,.str [],.val (.slice none 0 0),.val (.slice none 0 0)])] (To.ah (Wp.seq ?_)))))
  obtain⟨r1,hr1,h⟩:=au h
  refine rc [] 1 [4,5] [4] [(4,.own 4 0),(5,vb true)] [(4,25,qc6 r1)] (oN n (af.mk 3 a0.aC a0.ak a0.aj) _ hr1) (To.ah (Wp.ret ?_))
  cases h
  exact To.done hΓ (by kernel_rfl)
def jU(n:Nat)(v1:Bool)(v7:Ls)(v9:Int)(b4:af)(b6:af):Nat->Int->Option (Int)
 |0,_=>none
 |k+1,v10=>if(decide (0<=v9/\v9<(List.length v7:Int)))=true then(if((!((decide (v10<(List.length ((v7)[Int.toNat v9]?.getD []):Int)))==true)||decide (0<=v9/\v9<(List.length v7:Int))))=true then(if((!((decide (v10<(List.length ((v7)[Int.toNat v9]?.getD []):Int)))==true)||decide (0<=v10/\v10<(List.length ((v7)[Int.toNat v9]?.getD []):Int))))=true then(aQ ((bif (decide (v10<(List.length ((v7)[Int.toNat v9]?.getD []):Int))) then((((((v7)[Int.toNat v9]?.getD []))[Int.toNat v10]?.getD 0).toNat:Int) != 61) else false):Bool) fun x2 =>
 if x2=true then(jU n v1 v7 v9 b4 b6 k (IntKind.wrap .i64 (v10+1)))
 else some v10) else none) else none) else none
theorem Ci(n:Nat)(v1:Bool)(v7:Ls)(v9:Int)(b4:af)(b6:af)(k:Nat):∀(v10:Int)(o:Int),jU n v1 v7 v9 b4 b6 k v10=some o->To 132 F0 w0 [(1,vb v1),(4,.own 4 0),(6,.own 6 0),(7,ls v7),(9,vi v9),(10,vi o)] [(4,25,qc6 b4),(6,25,qc6 b6)] (.exit 2) Q->WL Tryz.prog 132 F0 w0 [(1,vb v1),(4,.own 4 0),(6,.own 6 0),(7,ls v7),(9,vi v9),(10,vi v10)] [(4,25,qc6 b4),(6,25,qc6 b6)] (cI (cI (cA (cB (cI (cA (cB (cI (cI (cB (cA (cT (cB (cA (cB (cB (cB (cF Tryz.f71)))))))))))))))))) Q:=by
 induction k with
 |zero=>intro v10 o h;cases h
 |succ k ih =>
  intro v10 o h hQ
  rw[jU] at h
  refine WL.round (Wp.seq (Wp.seq ?_))
  obtain⟨hc3,h⟩:=ax h
  obtain⟨hc4,h⟩:=ax h
  obtain⟨hc5,h⟩:=ax h
  obtain⟨x2,hx2,h⟩:=aS h
  refine r0 [1,4,6,7,9,10,42] [4,6] [(1,vb v1),(4,.own 4 0),(6,.own 6 0),(7,ls v7),(9,vi v9),(10,vi v10),(42,vb (bif (decide (v10<(H7 v7 v9))) then((((((v7)[Int.toNat v9]?.getD []))[Int.toNat v10]?.getD 0).toNat:Int) != 61) else false))] [(4,25,qc6 b4),(6,25,qc6 b6)] (ai.cons hc3 (ai.cons hc4 (ai.cons hc5 ai.nil))) (To.eq (K':=[(1,vb v1),(4,.own 4 0),(6,.own 6 0),(7,ls v7),(9,vi v9),(10,vi v10),(42,vb x2)]) (L':=[(4,25,qc6 b4),(6,25,qc6 b6)]) (by cases hx2;rfl) (by cases hx2;rfl) (To.ah (cn h (fun h=>?_) (fun h=>?_))))
  ·refine Wp.skip (To.ah (Wp.block (rg [1,4,6,7,9,10] [4,6] [(1,vb v1),(4,.own 4 0),(6,.own 6 0),(7,ls v7),(9,vi v9),(10,vi (IntKind.wrap .i64 (v10+1)))] [(4,25,qc6 b4),(6,25,qc6 b6)] (To.aR (To.again ?_)))))
   exact ih (IntKind.wrap .i64 (v10+1)) _ h hQ
  ·refine Wp.exit (To.aK (To.aK (kt [1,4,6,7,9,10] [4,6] [(1,vb v1),(4,.own 4 0),(6,.own 6 0),(7,ls v7),(9,vi v9),(10,vi v10)] [(4,25,qc6 b4),(6,25,qc6 b6)] ?_)))
   cases h
   exact hQ
def mV(n:Nat)(v1:Bool)(v7:Ls)(v9:Int)(v10:Int)(v11:Bs)(v51:Bool)(b4:af)(b6:af):Option (Bs) :=
 if v51=true then(if(decide (0<=v9/\v9<(List.length v7:Int)))=true then(if(decide (0<=(IntKind.wrap .i64 (v10+1))/\(IntKind.wrap .i64 (v10+1))<=(List.length ((v7)[Int.toNat v9]?.getD []):Int)))=true then(some (List.drop (Int.toNat (IntKind.wrap .i64 (v10+1))) ((v7)[Int.toNat v9]?.getD []))) else none) else none)
 else some v11
abbrev UH(x0:Int):=(Int.toNat (IntKind.wrap .i64 (x0+1)))
theorem BN(n:Nat)(v1:Bool)(v7:Ls)(v9:Int)(v10:Int)(v11:Bs)(v51:Bool)(b4:af)(b6:af)(o:Bs)(h:mV n v1 v7 v9 v10 v11 v51 b4 b6=some o)(hQ:To 132 F0 w0 [(1,vb v1),(4,.own 4 0),(6,.own 6 0),(7,ls v7),(9,vi v9),(10,vi v10),(11,.str o)] [(4,25,qc6 b4),(6,25,qc6 b6)] .normal Q):Wp Tryz.prog 132 F0 w0 [(1,vb v1),(4,.own 4 0),(6,.own 6 0),(7,ls v7),(9,vi v9),(10,vi v10),(11,.str v11),(51,vb v51)] [(4,25,qc6 b4),(6,25,qc6 b6)] (cB (cA (cB (cB (cB (cI (cA (cB (cI (cI (cB (cA (cT (cB (cA (cB (cB (cB (cF Tryz.f71))))))))))))))))))) Q:=by
 unfold mV at h
 refine cn h (fun h=>?_) (fun h=>?_)
 ·obtain⟨hc3,h⟩:=ax h
  obtain⟨hc4,h⟩:=ax h
  refine r0 [1,4,6,7,9,10,11] [4,6] [(1,vb v1),(4,.own 4 0),(6,.own 6 0),(7,ls v7),(9,vi v9),(10,vi v10),(11,.str (List.drop (UH v10) ((v7)[Int.toNat v9]?.getD [])))] [(4,25,qc6 b4),(6,25,qc6 b6)] (ai.cons hc3 (ai.cons hc4 ai.nil)) (kt [1,4,6,7,9,10,11] [4,6] [(1,vb v1),(4,.own 4 0),(6,.own 6 0),(7,ls v7),(9,vi v9),(10,vi v10),(11,.str (List.drop (UH v10) ((v7)[Int.toNat v9]?.getD [])))] [(4,25,qc6 b4),(6,25,qc6 b6)] ?_)
  cases h
  exact hQ
 ·refine Wp.skip (kt [1,4,6,7,9,10,11] [4,6] [(1,vb v1),(4,.own 4 0),(6,.own 6 0),(7,ls v7),(9,vi v9),(10,vi v10),(11,.str v11)] [(4,25,qc6 b4),(6,25,qc6 b6)] ?_)
  cases h
  exact hQ
def mQ(n:Nat)(v1:Bool)(v7:Ls)(v9:Int)(b4:af)(b6:af):Option (Sum (af×af) (Bool×af)) :=
 (jU n v1 v7 v9 b4 b6 n 0).bind fun o2 =>
 if(decide (0<=v9/\v9<(List.length v7:Int)))=true then((mV n v1 v7 v9 o2 [] (decide (o2<(List.length ((v7)[Int.toNat v9]?.getD []):Int))) b4 b6).bind fun o3 =>
 if(decide (0<=v9/\v9<(List.length v7:Int)))=true then(if(decide (0<=o2/\o2<=(List.length ((v7)[Int.toNat v9]?.getD []):Int)))=true then((rQ n (List.take (Int.toNat o2) ((v7)[Int.toNat v9]?.getD [])) v1).bind fun r4 =>
 ((if((!r4)==false)=true then mo n b6.ak (List.take (Int.toNat o2) ((v7)[Int.toNat v9]?.getD [])) else some false)).bind fun r5 =>
 if(bif (!r4) then true else r5)=true then(some (.inr (false,(af.mk 0 [] [] []))))
 else(aQ (dA o3) fun r6 =>
 (dK n b6 (List.take (Int.toNat o2) ((v7)[Int.toNat v9]?.getD [])) r6).bind fun r7 =>
 some (.inl (b4,r7)))) else none) else none) else none
theorem Cb(n:Nat)(v1:Bool)(v7:Ls)(v9:Int)(b4:af)(b6:af)(o:Sum (af×af) (Bool×af))(h:mQ n v1 v7 v9 b4 b6=some o)(hQ:(Sum.elim (fun s=>To 132 F0 w0 [(1,vb v1),(4,.own 4 0),(6,.own 6 0),(7,ls v7),(9,vi v9)] [(4,25,qc6 s.1),(6,25,qc6 s.2)] .normal Q) (fun s=>To 132 F0 w0 [(4,.own 4 0),(5,vb s.1)] [(4,25,qc6 s.2)] .ret Q)) o):Wp Tryz.prog 132 F0 w0 [(1,vb v1),(4,.own 4 0),(6,.own 6 0),(7,ls v7),(9,vi v9)] [(4,25,qc6 b4),(6,25,qc6 b6)] (cA (cB (cI (cI (cB (cA (cT (cB (cA (cB (cB (cB (cF Tryz.f71))))))))))))) Q:=by
 unfold mQ at h
 refine Wp.block (Wp.seq (rg [1,4,6,7,9,10] [4,6] [(1,vb v1),(4,.own 4 0),(6,.own 6 0),(7,ls v7),(9,vi v9),(10,vi 0)] [(4,25,qc6 b4),(6,25,qc6 b6)] (To.ah (Wp.seq (Wp.block ?_)))))
 obtain⟨o2,ho2,h⟩:=au h
 refine kw [1,4,6,7,9,10] [4,6] [(1,vb v1),(4,.own 4 0),(6,.own 6 0),(7,ls v7),(9,vi v9),(10,vi 0)] [(4,25,qc6 b4),(6,25,qc6 b6)] (Wp.bE (Ci n v1 v7 v9 b4 b6 n 0 o2 ho2 (To.aY (To.ah (Wp.seq (rg [1,4,6,7,9,10,11] [4,6] [(1,vb v1),(4,.own 4 0),(6,.own 6 0),(7,ls v7),(9,vi v9),(10,vi o2),(11,.str [])] [(4,25,qc6 b4),(6,25,qc6 b6)] (To.ah (Wp.seq (Wp.seq ?_)))))))))
 obtain⟨hc10,h⟩:=ax h
 refine r0 [1,4,6,7,9,10,11,51] [4,6] [(1,vb v1),(4,.own 4 0),(6,.own 6 0),(7,ls v7),(9,vi v9),(10,vi o2),(11,.str []),(51,vb (decide (o2<(H7 v7 v9))))] [(4,25,qc6 b4),(6,25,qc6 b6)] (ai.cons hc10 ai.nil) (To.ah ?_)
 obtain⟨o3,ho3,h⟩:=au h
 refine kw [1,4,6,7,9,10,11,51] [4,6] [(1,vb v1),(4,.own 4 0),(6,.own 6 0),(7,ls v7),(9,vi v9),(10,vi o2),(11,.str []),(51,vb (decide (o2<(H7 v7 v9))))] [(4,25,qc6 b4),(6,25,qc6 b6)] (BN n v1 v7 v9 o2 [] (decide (o2<(H7 v7 v9))) b4 b6 o3 ho3 (To.ah (Wp.seq ?_)))
 obtain⟨hc8,h⟩:=ax h
 obtain⟨hc9,h⟩:=ax h
 refine r0 [1,4,6,7,9,11,12] [4,6] [(1,vb v1),(4,.own 4 0),(6,.own 6 0),(7,ls v7),(9,vi v9),(11,.str o3),(12,.str (List.take (Int.toNat o2) ((v7)[Int.toNat v9]?.getD [])))] [(4,25,qc6 b4),(6,25,qc6 b6)] (ai.cons hc8 (ai.cons hc9 ai.nil)) (To.ah (Wp.seq (Wp.seq ?_)))
 obtain⟨r4,hr4,h⟩:=au h
 obtain⟨r5,hr5,h⟩:=au h
 refine rr [] [(2,vb r4),(8,vb r5)] [] [1,4,6,7,9,11,12,74] [4,6] [(1,vb v1),(4,.own 4 0),(6,.own 6 0),(7,ls v7),(9,vi v9),(11,.str o3),(12,.str (List.take (Int.toNat o2) ((v7)[Int.toNat v9]?.getD []))),(74,vb (bif (!r4) then true else r5))] [(4,25,qc6 b4),(6,25,qc6 b6)] [_,(((!r4)==false)=true->CX Tryz.prog 22 [ls b6.ak,.str (List.take (Int.toNat o2) ((v7)[Int.toNat v9]?.getD []))] (vb r5))] (ai.cons (c1 (zA n (List.take (Int.toNat o2) ((v7)[Int.toNat v9]?.getD [])) v1 _ hr4)) (ai.cons (fun hg=>cx (uG n b6.ak (List.take (Int.toNat o2) ((v7)[Int.toNat v9]?.getD [])) _ (jB hg hr5))) ai.nil)) (To.ah (cn h (fun h=>?_) (fun h=>?_)))
 ·refine Wp.seq (rg [4,5] [4] [(4,.own 4 0),(5,vb false)] [(4,25,[vi 0,.str [],.val (.slice none 0 0),.val (.slice none 0 0)])] (To.ah (Wp.ret (To.aA (To.aP (To.weak (K':=[(4,.own 4 0),(5,vb false)]) (L':=[(4,25,[vi 0,.str [],ls [],tn4 []])]) (.cons (.refl _) (.cons (.refl _) .nil)) (.cons (.cons (.refl _) (.cons (.refl _) (.cons (.zero _ _) (.cons (.bu _ _ _) .nil)))) .nil) ?_))))))
  cases h
  exact hQ
 ·refine Wp.skip (To.ah ?_)
  obtain⟨r6,hr6,h⟩:=aS h
  obtain⟨r7,hr7,h⟩:=au h
  refine Wp.bI hm hΓ [(3,.agg (qc6 r6)),(4,.agg (qc6 r7))] [1,4,6,7,9] [4,6] (K':=[(1,vb v1),(4,.own 4 0),(6,.own 6 0),(7,ls v7),(9,vi v9)]) (L':=[(4,25,qc6 b4),(6,25,qc6 r7)]) (ob:=[(true=true->CX Tryz.prog 91 [.str o3] (.agg (qc6 r6))),(true=true->CX Tryz.prog 30 [.agg (qc6 b6),.str (List.take (Int.toNat o2) ((v7)[Int.toNat v9]?.getD [])),.agg (qc6 r6)] (.agg (qc6 r7)))]) (by kernel_rfl) (ai.cons (fun _=>cx (dM o3 _ hr6)) (ai.cons (fun _=>cx (eu n b6 (List.take (Int.toNat o2) ((v7)[Int.toNat v9]?.getD [])) r6 _ hr7)) ai.nil)) (To.aR (kt [1,4,6,7,9] [4,6] [(1,vb v1),(4,.own 4 0),(6,.own 6 0),(7,ls v7),(9,vi v9)] [(4,25,qc6 b4),(6,25,qc6 r7)] ?_))
  cases h
  exact hQ
def dZ(n:Nat)(v1:Bool)(v7:Ls):Nat->Int->af->af->Option (Sum (af×af) (Bool×af))
 |0,_,_,_=>none
 |k+1,v9,b4,b6=>if(decide (v9<(List.length v7:Int)))=true then((mQ n v1 v7 v9 b4 b6).bind fun o2 =>
 (Sum.elim (fun o2=>dZ n v1 v7 k (IntKind.wrap .i64 (v9+1)) o2.1 o2.2) (fun o2=>some (.inr (o2.1,o2.2)))) o2)
 else(some (.inl (b4,b6)))
theorem C4(n:Nat)(v1:Bool)(v7:Ls)(k:Nat):∀(v9:Int)(b4:af)(b6:af)(o:Sum (af×af) (Bool×af)),dZ n v1 v7 k v9 b4 b6=some o->(Sum.elim (fun s=>To 132 F0 w0 [(4,.own 4 0),(6,.own 6 0)] [(4,25,qc6 s.1),(6,25,qc6 s.2)] (.exit 0) Q) (fun s=>To 132 F0 w0 [(4,.own 4 0),(5,vb s.1)] [(4,25,qc6 s.2)] .ret Q)) o->WL Tryz.prog 132 F0 w0 [(1,vb v1),(4,.own 4 0),(6,.own 6 0),(7,ls v7),(9,vi v9)] [(4,25,qc6 b4),(6,25,qc6 b6)] (cI (cI (cB (cA (cT (cB (cA (cB (cB (cB (cF Tryz.f71))))))))))) Q:=by
 induction k with
 |zero=>intro v9 b4 b6 o h;cases h
 |succ k ih =>
  intro v9 b4 b6 o h hQ
  rw[dZ] at h
  refine WL.round (Wp.seq (Wp.seq (rg [1,4,6,7,9,24] [4,6] [(1,vb v1),(4,.own 4 0),(6,.own 6 0),(7,ls v7),(9,vi v9),(24,vb (ex4 v9 v7))] [(4,25,qc6 b4),(6,25,qc6 b6)] (To.ah (cn h (fun h=>?_) (fun h=>?_))))))
  ·refine Wp.skip (To.ah (Wp.seq ?_))
   obtain⟨o2,ho2,h⟩:=au h
   refine kw [1,4,6,7,9] [4,6] [(1,vb v1),(4,.own 4 0),(6,.own 6 0),(7,ls v7),(9,vi v9)] [(4,25,qc6 b4),(6,25,qc6 b6)] (Cb n v1 v7 v9 b4 b6 o2 ho2 ?_)
   rcases o2 with o2|o2
   ·replace h:=cv h
    refine To.ah (rg [1,4,6,7,9] [4,6] [(1,vb v1),(4,.own 4 0),(6,.own 6 0),(7,ls v7),(Hf v9)] [(4,25,qc6 o2.1),(6,25,qc6 o2.2)] (kt [1,4,6,7,9] [4,6] [(1,vb v1),(4,.own 4 0),(6,.own 6 0),(7,ls v7),(Hf v9)] [(4,25,qc6 o2.1),(6,25,qc6 o2.2)] (To.again ?_)))
    exact ih (IntKind.wrap .i64 (v9+1)) o2.1 o2.2 _ h hQ
   ·replace h:=cy h
    refine To.aA (To.aA (kt [4,5] [4] [(4,.own 4 0),(5,vb o2.1)] [(4,25,qc6 o2.2)] ?_))
    cases h
    exact hQ
  ·refine Wp.exit (To.aK (To.aK (kt [4,6] [4,6] [(4,.own 4 0),(6,.own 6 0)] [(4,25,qc6 b4),(6,25,qc6 b6)] ?_)))
   cases h
   exact hQ
def dY(n:Nat)(v1:Bool)(b2:af):Nat->Int->af->af->Option (Sum (af×af) (Bool×af))
 |0,_,_,_=>none
 |k+1,v13,b4,b6=>if(decide (v13<(List.length b2.ak:Int)))=true then(if(decide (0<=v13/\v13<(List.length b2.ak:Int)))=true then((rQ n ((b2.ak)[Int.toNat v13]?.getD []) v1).bind fun r4 =>
 if((!((!r4)==false)||decide (0<=v13/\v13<(List.length b2.aj:Int))))=true then(if(bif (!r4) then true else(decide ((((b2.aj)[Int.toNat v13]?.getD (af.mk 0 [] [] [])).av)>1)))=true then(some (.inr (false,(af.mk 0 [] [] []))))
 else(if(decide (0<=v13/\v13<(List.length b2.ak:Int)))=true then(if(decide (0<=v13/\v13<(List.length b2.aj:Int)))=true then(aQ (dA (((b2.aj)[Int.toNat v13]?.getD (af.mk 0 [] [] [])).aC)) fun r5 =>
 (dK n b6 ((b2.ak)[Int.toNat v13]?.getD []) r5).bind fun r6 =>
 dY n v1 b2 k (IntKind.wrap .i64 (v13+1)) b4 r6) else none) else none)) else none) else none)
 else(some (.inl (b4,b6)))
theorem BJ(n:Nat)(v1:Bool)(b2:af)(k:Nat):∀(v13:Int)(b4:af)(b6:af)(o:Sum (af×af) (Bool×af)),dY n v1 b2 k v13 b4 b6=some o->(Sum.elim (fun s=>To 132 F0 w0 [(4,.own 4 0),(6,.own 6 0)] [(4,25,qc6 s.1),(6,25,qc6 s.2)] (.exit 4) Q) (fun s=>To 132 F0 w0 [(4,.own 4 0),(5,vb s.1)] [(4,25,qc6 s.2)] .ret Q)) o->WL Tryz.prog 132 F0 w0 [(1,vb v1),(2,.own 2 0),(4,.own 4 0),(6,.own 6 0),(13,vi v13)] [(2,25,qc6 b2),(4,25,qc6 b4),(6,25,qc6 b6)] (cI (cI (cB (cA (cB (cB (cB (cB (cB (cF Tryz.f71)))))))))) Q:=by
 induction k with
 |zero=>intro v13 b4 b6 o h;cases h
 |succ k ih =>
  intro v13 b4 b6 o h hQ
  rw[dY] at h
  refine WL.round (Wp.seq (Wp.seq (rg [1,2,4,6,13,93] [2,4,6] [(1,vb v1),(2,.own 2 0),(4,.own 4 0),(6,.own 6 0),(13,vi v13),(93,vb (yF v13 b2))] [(2,25,qc6 b2),(4,25,qc6 b4),(6,25,qc6 b6)] (To.ah (cn h (fun h=>?_) (fun h=>?_))))))
  ·refine Wp.skip (To.ah (Wp.seq (Wp.block (Wp.seq (Wp.seq ?_)))))
   obtain⟨hc9,h⟩:=ax h
   obtain⟨r4,hr4,h⟩:=au h
   obtain⟨hc10,h⟩:=ax h
   refine rr [] [(6,vb r4)] [] [1,2,4,6,13,112] [2,4,6] [(1,vb v1),(2,.own 2 0),(4,.own 4 0),(6,.own 6 0),(13,vi v13),(112,vb (bif (!r4) then true else(decide (((ex5 b2 v13).av)>1))))] [(2,25,qc6 b2),(4,25,qc6 b4),(6,25,qc6 b6)] [_,_,_] (ai.cons hc9 (ai.cons (c1 (zA n (df b2 v13) v1 _ hr4)) (ai.cons hc10 ai.nil))) (To.ah (cn h (fun h=>?_) (fun h=>?_)))
   ·refine Wp.seq (rg [4,5] [4] [(4,.own 4 0),(5,vb false)] [(4,25,[vi 0,.str [],.val (.slice none 0 0),.val (.slice none 0 0)])] (To.ah (Wp.ret (To.aA (To.aP (To.aA (To.aA (To.weak (K':=[(4,.own 4 0),(5,vb false)]) (L':=[(4,25,[vi 0,.str [],ls [],tn4 []])]) (.cons (.refl _) (.cons (.refl _) .nil)) (.cons (.cons (.refl _) (.cons (.refl _) (.cons (.zero _ _) (.cons (.bu _ _ _) .nil)))) .nil) ?_))))))))
    cases h
    exact hQ
   ·refine Wp.skip (To.ah ?_)
    obtain⟨hc7,h⟩:=ax h
    obtain⟨hc8,h⟩:=ax h
    obtain⟨r5,hr5,h⟩:=aS h
    obtain⟨r6,hr6,h⟩:=au h
    refine Wp.bI hm hΓ [(12,.agg (qc6 r5)),(13,.agg (qc6 r6))] [1,2,4,6,13] [2,4,6] (K':=[(1,vb v1),(2,.own 2 0),(4,.own 4 0),(6,.own 6 0),(13,vi v13)]) (L':=[(2,25,qc6 b2),(4,25,qc6 b4),(6,25,qc6 r6)]) (ob:=[(Ip v13 b2)=true,(decide (ex6 v13 b2))=true,(true=true->CX Tryz.prog 91 [.str ((ex5 b2 v13).aC)] (.agg (qc6 r5))),(true=true->CX Tryz.prog 30 [.agg (qc6 b6),.str (df b2 v13),.agg (qc6 r5)] (.agg (qc6 r6)))]) (by kernel_rfl) (ai.cons hc7 (ai.cons hc8 (ai.cons (fun _=>cx (dM ((ex5 b2 v13).aC) _ hr5)) (ai.cons (fun _=>cx (eu n b6 (df b2 v13) r5 _ hr6)) ai.nil)))) (To.aR (To.ah (rg [1,2,4,6,13] [2,4,6] [(1,vb v1),(2,.own 2 0),(4,.own 4 0),(6,.own 6 0),(13,vi (IntKind.wrap .i64 (v13+1)))] [(2,25,qc6 b2),(4,25,qc6 b4),(6,25,qc6 r6)] (kt [1,2,4,6,13] [2,4,6] [(1,vb v1),(2,.own 2 0),(4,.own 4 0),(6,.own 6 0),(13,vi (IntKind.wrap .i64 (v13+1)))] [(2,25,qc6 b2),(4,25,qc6 b4),(6,25,qc6 r6)] (To.again ?_)))))
    exact ih (IntKind.wrap .i64 (v13+1)) b4 r6 _ h hQ
  ·refine Wp.exit (To.aK (To.aK (kt [4,6] [4,6] [(4,.own 4 0),(6,.own 6 0)] [(4,25,qc6 b4),(6,25,qc6 b6)] ?_)))
   cases h
   exact hQ
def qG(n:Nat)(a0:af)(a1:Bool):Option (af×Bool) :=
 (fM n a0).bind fun r1 =>
 if r1.2=true then((dZ n a1 r1.1 n 0 (af.mk 0 [] [] []) (af.mk 0 [] [] [])).bind fun o2 =>
 (Sum.elim (fun o2=>(eO n o2.2 true).bind fun r3 =>
 some (r3.1,r3.2)) (fun o2=>some (o2.2,o2.1))) o2)
 else(if(a0.av != 3)=true then(some ((af.mk 0 [] [] []),false))
 else((dY n a1 a0 n 0 (af.mk 0 [] [] []) (af.mk 0 [] [] [])).bind fun o4 =>
 (Sum.elim (fun o4=>(eO n o4.2 true).bind fun r5 =>
 some (r5.1,r5.2)) (fun o4=>some (o4.2,o4.1))) o4))
theorem Ic(n:Nat)(a0:af)(a1:Bool)(r:af×Bool)(h:qG n a0 a1=some r):aJ Tryz.prog 71 [.agg (qc6 a0),vb a1] (.tup [.agg (qc6 r.1),vb r.2]):=by
 unfold qG at h
 refine xo Tryz.f71 rfl fun F0 w0 _=>?_
 refine Wp.seq (rg [1,2,4] [2,4] [(1,vb a1),(2,.own 2 0),(4,.own 4 0)] [(2,25,qc6 a0),(4,25,[vi 0,.str [],.val (.slice none 0 0),.val (.slice none 0 0)])] (To.ah (Wp.seq (rg [1,2,4,6] [2,4,6] [(1,vb a1),(2,.own 2 0),(4,.own 4 0),(6,.own 6 0)] [(2,25,qc6 a0),(4,25,[vi 0,.str [],.val (.slice none 0 0),.val (.slice none 0 0)]),(6,25,[vi 0,.str [],.val (.slice none 0 0),.val (.slice none 0 0)])] (To.ah (Wp.seq ?_))))))
 obtain⟨r1,hr1,h⟩:=au h
 refine rc [] 1 [1,2,4,6,7,8] [2,4,6] [(1,vb a1),(2,.own 2 0),(4,.own 4 0),(6,.own 6 0),(7,ls r1.1),(8,vb r1.2)] [(2,25,qc6 a0),(4,25,[vi 0,.str [],.val (.slice none 0 0),.val (.slice none 0 0)]),(6,25,[vi 0,.str [],.val (.slice none 0 0),.val (.slice none 0 0)])] (mT n a0 _ hr1) (To.ah (Wp.seq (Wp.seq (rg [1,2,4,6,7,20] [2,4,6] [(1,vb a1),(2,.own 2 0),(4,.own 4 0),(6,.own 6 0),(7,ls r1.1),(20,vb r1.2)] [(2,25,qc6 a0),(4,25,[vi 0,.str [],.val (.slice none 0 0),.val (.slice none 0 0)]),(6,25,[vi 0,.str [],.val (.slice none 0 0),.val (.slice none 0 0)])] (To.ah (cn h (fun h=>?_) (fun h=>?_)))))))
 ·refine Wp.seq (Wp.seq (rg [1,4,6,7,9] [4,6] [(1,vb a1),(4,.own 4 0),(6,.own 6 0),(7,ls r1.1),(9,vi 0)] [(4,25,[vi 0,.str [],.val (.slice none 0 0),.val (.slice none 0 0)]),(6,25,[vi 0,.str [],.val (.slice none 0 0),.val (.slice none 0 0)])] (To.ah (Wp.block ?_))))
  obtain⟨o2,ho2,h⟩:=au h
  refine kw [1,4,6,7,9] [4,6] [(1,vb a1),(4,.own 4 0),(6,.own 6 0),(7,ls r1.1),(9,vi 0)] [(4,25,[vi 0,.str [],.val (.slice none 0 0),.val (.slice none 0 0)]),(6,25,[vi 0,.str [],.val (.slice none 0 0),.val (.slice none 0 0)])] (Wp.weak (K':=[(1,vb a1),(4,.own 4 0),(6,.own 6 0),(7,ls r1.1),(9,vi 0)]) (L':=[(4,25,[vi 0,.str [],ls [],tn4 []]),(6,25,[vi 0,.str [],ls [],tn4 []])]) (.cons (.refl _) (.cons (.refl _) (.cons (.refl _) (.cons (.refl _) (.cons (.refl _) .nil))))) (.cons (.cons (.refl _) (.cons (.refl _) (.cons (.zero _ _) (.cons (.bu _ _ _) .nil)))) (.cons (.cons (.refl _) (.cons (.refl _) (.cons (.zero _ _) (.cons (.bu _ _ _) .nil)))) .nil)) (Wp.bE (C4 n a1 r1.1 n 0 zx3 zx3 o2 ho2 ?_)))
  rcases o2 with o2|o2
  ·replace h:=cv h
   refine To.aY (To.ah (Wp.seq ?_))
   obtain⟨r3,hr3,h⟩:=au h
   refine rc [] 1 [4,5] [4] [(4,.own 4 0),(5,vb r3.2)] [(4,25,qc6 r3.1)] (jK n o2.2 true _ hr3) (To.ah (Wp.ret (To.aA ?_)))
   cases h
   exact To.done hΓ (by kernel_rfl)
  ·replace h:=cy h
   refine To.aP (To.aA (To.aA ?_))
   cases h
   exact To.done hΓ (by kernel_rfl)
 ·refine Wp.skip (To.ah (Wp.seq (Wp.seq (rg [1,2,4,6,87] [2,4,6] [(1,vb a1),(2,.own 2 0),(4,.own 4 0),(6,.own 6 0),(87,vb (a0.av != 3))] [(2,25,qc6 a0),(4,25,[vi 0,.str [],.val (.slice none 0 0),.val (.slice none 0 0)]),(6,25,[vi 0,.str [],.val (.slice none 0 0),.val (.slice none 0 0)])] (To.ah (cn h (fun h=>?_) (fun h=>?_)))))))
  ·refine Wp.seq (rg [4,5] [4] [(4,.own 4 0),(5,vb false)] [(4,25,[vi 0,.str [],.val (.slice none 0 0),.val (.slice none 0 0)])] (To.ah (Wp.ret (To.aA (To.weak (K':=[(4,.own 4 0),(5,vb false)]) (L':=[(4,25,[vi 0,.str [],ls [],tn4 []])]) (.cons (.refl _) (.cons (.refl _) .nil)) (.cons (.cons (.refl _) (.cons (.refl _) (.cons (.zero _ _) (.cons (.bu _ _ _) .nil)))) .nil) ?_)))))
   cases h
   exact To.done hΓ (by kernel_rfl)
  ·refine Wp.skip (To.ah (Wp.seq (Wp.seq (rg [1,2,4,6,13] [2,4,6] [(1,vb a1),(2,.own 2 0),(4,.own 4 0),(6,.own 6 0),(13,vi 0)] [(2,25,qc6 a0),(4,25,[vi 0,.str [],.val (.slice none 0 0),.val (.slice none 0 0)]),(6,25,[vi 0,.str [],.val (.slice none 0 0),.val (.slice none 0 0)])] (To.ah (Wp.block ?_))))))
   obtain⟨o4,ho4,h⟩:=au h
   refine kw [1,2,4,6,13] [2,4,6] [(1,vb a1),(2,.own 2 0),(4,.own 4 0),(6,.own 6 0),(13,vi 0)] [(2,25,qc6 a0),(4,25,[vi 0,.str [],.val (.slice none 0 0),.val (.slice none 0 0)]),(6,25,[vi 0,.str [],.val (.slice none 0 0),.val (.slice none 0 0)])] (Wp.weak (K':=[(1,vb a1),(2,.own 2 0),(4,.own 4 0),(6,.own 6 0),(13,vi 0)]) (L':=[(2,25,qc6 a0),(4,25,[vi 0,.str [],ls [],tn4 []]),(6,25,[vi 0,.str [],ls [],tn4 []])]) (.cons (.refl _) (.cons (.refl _) (.cons (.refl _) (.cons (.refl _) (.cons (.refl _) .nil))))) (.cons (.cons (.refl _) (.cons (.refl _) (.cons (.refl _) (.cons (.refl _) .nil)))) (.cons (.cons (.refl _) (.cons (.refl _) (.cons (.zero _ _) (.cons (.bu _ _ _) .nil)))) (.cons (.cons (.refl _) (.cons (.refl _) (.cons (.zero _ _) (.cons (.bu _ _ _) .nil)))) .nil))) (Wp.bE (BJ n a1 a0 n 0 zx3 zx3 o4 ho4 ?_)))
   rcases o4 with o4|o4
   ·replace h:=cv h
    refine To.aY (To.ah (Wp.seq ?_))
    obtain⟨r5,hr5,h⟩:=au h
    refine rc [] 1 [4,5] [4] [(4,.own 4 0),(5,vb r5.2)] [(4,25,qc6 r5.1)] (jK n o4.2 true _ hr5) (To.ah (Wp.ret ?_))
    cases h
    exact To.done hΓ (by kernel_rfl)
   ·replace h:=cy h
    refine To.aP (To.aA ?_)
    cases h
    exact To.done hΓ (by kernel_rfl)
def po(n:Nat)(v4:Ls)(v5:Bool)(v6:Int)(b1:af)(b2:af):Option (Bool) :=
 if(decide (0<=v6/\v6<(List.length b1.aj:Int)))=true then(if((!(((((b1.aj)[Int.toNat v6]?.getD (af.mk 0 [] [] [])).av) != 0)==true)||decide (0<=v6/\v6<(List.length b1.aj:Int))))=true then(if((!((((((b1.aj)[Int.toNat v6]?.getD (af.mk 0 [] [] [])).av) != 3)==false)&&(((((b1.aj)[Int.toNat v6]?.getD (af.mk 0 [] [] [])).av) != 0)==true))||decide (0<=v6/\v6<(List.length b1.aj:Int))))=true then(aQ ((bif ((((b1.aj)[Int.toNat v6]?.getD (af.mk 0 [] [] [])).av) != 0) then(bif ((((b1.aj)[Int.toNat v6]?.getD (af.mk 0 [] [] [])).av) != 3) then true else(decide ((List.length (((b1.aj)[Int.toNat v6]?.getD (af.mk 0 [] [] [])).ak):Int)>0))) else false):Bool) fun x2 =>
 if x2=true then some false
 else some v5) else none) else none) else none
theorem FH(n:Nat)(v4:Ls)(v5:Bool)(v6:Int)(b1:af)(b2:af)(o:Bool)(h:po n v4 v5 v6 b1 b2=some o)(hQ:To 85 F0 w0 [(1,.own 1 0),(2,.own 2 0),(4,ls v4),(5,vb o),(6,vi v6)] [(1,25,qc6 b1),(2,25,qc6 b2)] .normal Q):Wp Tryz.prog 85 F0 w0 [(1,.own 1 0),(2,.own 2 0),(4,ls v4),(5,vb v5),(6,vi v6)] [(1,25,qc6 b1),(2,25,qc6 b2)] (cA (cB (cI (cI (cB (cB (cB (cT (cB (cA (cB (cB (cF Tryz.f29))))))))))))) Q:=by
 unfold po at h
 refine Wp.block (Wp.seq ?_)
 obtain⟨hc3,h⟩:=ax h
 obtain⟨hc4,h⟩:=ax h
 obtain⟨hc5,h⟩:=ax h
 obtain⟨x2,hx2,h⟩:=aS h
 refine r0 [1,2,4,5,6,57] [1,2] [(1,.own 1 0),(2,.own 2 0),(4,ls v4),(5,vb v5),(6,vi v6),(57,vb (bif (((ex5 b1 v6).av) != 0) then(bif (((ex5 b1 v6).av) != 3) then true else(decide ((List.length ((ex5 b1 v6).ak):Int)>0))) else false))] [(1,25,qc6 b1),(2,25,qc6 b2)] (ai.cons hc3 (ai.cons hc4 (ai.cons hc5 ai.nil))) (To.eq (K':=[(1,.own 1 0),(2,.own 2 0),(4,ls v4),(5,vb v5),(6,vi v6),(57,vb x2)]) (L':=[(1,25,qc6 b1),(2,25,qc6 b2)]) (by cases hx2;rfl) (by cases hx2;rfl) (To.ah (cn h (fun h=>?_) (fun h=>?_))))
 ·refine rg [1,2,4,5,6] [1,2] [(1,.own 1 0),(2,.own 2 0),(4,ls v4),(5,vb false),(6,vi v6)] [(1,25,qc6 b1),(2,25,qc6 b2)] (To.aR ?_)
  cases h
  exact hQ
 ·refine Wp.skip (To.aR (kt [1,2,4,5,6] [1,2] [(1,.own 1 0),(2,.own 2 0),(4,ls v4),(5,vb v5),(6,vi v6)] [(1,25,qc6 b1),(2,25,qc6 b2)] ?_))
  cases h
  exact hQ
def iQ(n:Nat)(v4:Ls)(b1:af)(b2:af):Nat->Bool->Int->Option (Bool)
 |0,_,_=>none
 |k+1,v5,v6=>if(decide (v6<(List.length b1.aj:Int)))=true then((po n v4 v5 v6 b1 b2).bind fun o2 =>
 iQ n v4 b1 b2 k o2 (IntKind.wrap .i64 (v6+1)))
 else some v5
end Go.Proofs.YtpmmhhmhckpnfaaGreat.M
