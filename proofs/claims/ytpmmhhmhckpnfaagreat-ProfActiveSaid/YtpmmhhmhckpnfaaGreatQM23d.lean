import Derived.Test.YtpmmhhmhckpnfaaGreatQM23c
set_option linter.all false
namespace Go.Proofs.YtpmmhhmhckpnfaaGreat.M
open Go.RowKit Go.Proofs.YtpmmhhmhckpnfaaGreat.RX
set_option maxRecDepth 100000
variable {F0:Fz} {w0:Pt Tryz.prog} {Q:Exit->Act->World->Prop}
theorem zd(n:Nat)(v0:Bs)(k:Nat):∀(v3:Int)(o:Sum (Unit) (Bool)),gQ n v0 k v3=some o->(Sum.elim (fun s=>To 37 F0 w0 [] [] (.exit 0) Q) (fun s=>To 37 F0 w0 [(2,vb s)] [] .ret Q)) o->WL Tryz.prog 37 F0 w0 [(0,.str v0),(3,vi v3)] [] (cI (cI (cB (cA (cB (cB (cF Tryz.f119))))))) Q:=by
 induction k with
 |zero=>intro v3 o h;cases h
 |succ k ih =>
  intro v3 o h hQ
  rw[gQ] at h
  refine WL.round (Wp.seq (Wp.seq (rg [0,3,16] [] [(0,.str v0),(3,vi v3),(16,vb (mM v3 v0))] [] (To.ah (cn h (fun h=>?_) (fun h=>?_))))))
  ·refine Wp.skip (To.ah (Wp.seq (Wp.block (Wp.seq ?_))))
   obtain⟨hc2,h⟩:=ax h
   refine rr [] [(3,vi (bI (bQ v0 v3)))] [] [0,3,4] [] [(0,.str v0),(3,vi v3),(4,vi (bI (bQ v0 v3)))] [] [_,_] (ai.cons hc2 (ai.cons (c1 (rL (bQ v0 v3) _ rfl)) ai.nil)) (To.ah (Wp.seq ?_))
   obtain⟨x1,hx1,h⟩:=aW h
   refine rg [0,3,36] [] [(0,.str v0),(3,vi v3),(36,vb (bif (bif ((bI (bQ v0 v3))==0) then true else(decide ((bI (bQ v0 v3))>4))) then true else(bif (v3==0) then((bI (bQ v0 v3))==3) else false)))] [] (To.eq (K':=[(0,.str v0),(3,vi v3),(36,vb x1)]) (L':=[]) (by cases hx1;rfl) (by cases hx1;rfl) (To.ah (cn h (fun h=>?_) (fun h=>?_))))
   ·refine Wp.seq (rg [2] [] [(2,vb false)] [] (To.ah (Wp.ret (To.aQ (To.aA (To.aA ?_))))))
    cases h
    exact hQ
   ·refine Wp.skip (To.aO (To.ah (rg [0,3] [] [(0,.str v0),(uN v3)] [] (kt [0,3] [] [(0,.str v0),(uN v3)] [] (To.again ?_)))))
    exact ih (IntKind.wrap .i64 (v3+1)) _ h hQ
  ·refine Wp.exit (To.aK (To.aK (kt [] [] [] [] ?_)))
   cases h
   exact hQ
def nF(n:Nat)(a0:Bs):Option (Bool) :=
 if(bif (decide ((List.length a0:Int)<1)) then true else(decide ((List.length a0:Int)>24)))=true then some false
 else((gQ n a0 n 0).bind fun o1 =>
 (Sum.elim (fun o1=>some true) (fun o1=>some o1)) o1)
theorem CW(n:Nat)(a0:Bs)(r:Bool)(h:nF n a0=some r):aJ Tryz.prog 119 [.str a0] (vb r):=by
 unfold nF at h
 refine xo Tryz.f119 rfl fun F0 w0 _=>?_
 refine Wp.seq (rg [0] [] [(0,.str a0)] [] (To.ah (Wp.seq (Wp.seq (rg [0,12] [] [(0,.str a0),(12,vb (SB a0))] [] (To.ah (cn h (fun h=>?_) (fun h=>?_))))))))
 ·refine Wp.seq (rg [2] [] [(2,vb false)] [] (To.ah (Wp.ret (To.aA ?_))))
  cases h
  exact To.done hΓ (by kernel_rfl)
 ·refine Wp.skip (To.ah (Wp.seq (Wp.seq (rg [0,3] [] [(0,.str a0),(3,vi 0)] [] (To.ah (Wp.block ?_))))))
  obtain⟨o1,ho1,h⟩:=au h
  refine kw [0,3] [] [(0,.str a0),(3,vi 0)] [] (Wp.bC (zd n a0 n 0 o1 ho1 ?_))
  rcases o1 with o1|o1
  ·replace h:=cy h
   refine To.aX (To.ah (Wp.seq (rg [2] [] [(2,vb true)] [] (To.ah (Wp.ret ?_)))))
   cases h
   exact To.done hΓ (by kernel_rfl)
  ·replace h:=cH h
   refine To.aQ (To.aA ?_)
   cases h
   exact To.done hΓ (by kernel_rfl)
def sJ(n:Nat)(a0:Bs)(a1:Bool):Option (Bool) :=
 if a1=true then((nF n a0).bind fun r1 =>
 some r1)
 else((il n a0).bind fun r2 =>
 some r2)
theorem BD(n:Nat)(a0:Bs)(a1:Bool)(r:Bool)(h:sJ n a0 a1=some r):aJ Tryz.prog 95 [.str a0,vb a1] (vb r):=by
 unfold sJ at h
 refine xo Tryz.f95 rfl fun F0 w0 _=>?_
 refine Wp.seq (rg [0,1] [] [(0,.str a0),(1,vb a1)] [] (To.ah (Wp.seq (Wp.seq (rg [0,5] [] [(0,.str a0),(5,vb a1)] [] (To.ah (cn h (fun h=>?_) (fun h=>?_))))))))
 ·refine Wp.seq ?_
  obtain⟨r1,hr1,h⟩:=au h
  refine rc [] 1 [4] [] [(4,vb r1)] [] (CW n a0 _ hr1) (To.ah (Wp.ret (To.aA ?_)))
  cases h
  exact To.done hΓ (by kernel_rfl)
 ·refine Wp.skip (To.ah (Wp.seq ?_))
  obtain⟨r2,hr2,h⟩:=au h
  refine rc [] 1 [4] [] [(4,vb r2)] [] (jR n a0 _ hr2) (To.ah (Wp.ret ?_))
  cases h
  exact To.done hΓ (by kernel_rfl)
def kN(n:Nat)(v0:Ls)(v1:Bs):Nat->Int->Option (Sum (Unit) (Bool))
 |0,_=>none
 |k+1,v5=>if(decide (v5<(List.length v0:Int)))=true then(if(decide (0<=v5/\v5<(List.length v0:Int)))=true then(if(((v0)[Int.toNat v5]?.getD [])==v1)=true then(some (.inr true))
 else(kN n v0 v1 k (IntKind.wrap .i64 (v5+1)))) else none)
 else(some (.inl ()))
theorem Io(n:Nat)(v0:Ls)(v1:Bs)(k:Nat):∀(v5:Int)(o:Sum (Unit) (Bool)),kN n v0 v1 k v5=some o->(Sum.elim (fun s=>To 18 F0 w0 [] [] (.exit 0) Q) (fun s=>To 18 F0 w0 [(4,vb s)] [] .ret Q)) o->WL Tryz.prog 18 F0 w0 [(0,ls v0),(1,.str v1),(5,vi v5)] [] (cI (cI (cB (cA (cB (cF Tryz.f22)))))) Q:=by
 induction k with
 |zero=>intro v5 o h;cases h
 |succ k ih =>
  intro v5 o h hQ
  rw[kN] at h
  refine WL.round (Wp.seq (Wp.seq (rg [0,1,5,9] [] [(0,ls v0),(1,.str v1),(5,vi v5),(9,vb (ex4 v5 v0))] [] (To.ah (cn h (fun h=>?_) (fun h=>?_))))))
  ·refine Wp.skip (To.ah (Wp.seq (Wp.block (Wp.seq ?_))))
   obtain⟨hc1,h⟩:=ax h
   refine r0 [0,1,5,17] [] [(0,ls v0),(1,.str v1),(5,vi v5),(17,vb (((v0)[Int.toNat v5]?.getD [])==v1))] [] (ai.cons hc1 ai.nil) (To.ah (cn h (fun h=>?_) (fun h=>?_)))
   ·refine Wp.seq (rg [4] [] [(4,vb true)] [] (To.ah (Wp.ret (To.aQ (To.aA (To.aA ?_))))))
    cases h
    exact hQ
   ·refine Wp.skip (To.aO (To.ah (rg [0,1,5] [] [(0,ls v0),(1,.str v1),(ex3 v5)] [] (kt [0,1,5] [] [(0,ls v0),(1,.str v1),(ex3 v5)] [] (To.again ?_)))))
    exact ih (IntKind.wrap .i64 (v5+1)) _ h hQ
  ·refine Wp.exit (To.aK (To.aK (kt [] [] [] [] ?_)))
   cases h
   exact hQ
def nR(n:Nat)(a0:Ls)(a1:Bs):Option (Bool) :=
 (kN n a0 a1 n 0).bind fun o1 =>
 (Sum.elim (fun o1=>some false) (fun o1=>some o1)) o1
theorem vq(n:Nat)(a0:Ls)(a1:Bs)(r:Bool)(h:nR n a0 a1=some r):aJ Tryz.prog 22 [ls a0,.str a1] (vb r):=by
 unfold nR at h
 refine xo Tryz.f22 rfl fun F0 w0 _=>?_
 refine Wp.seq (rg [0,1] [] [(0,ls a0),(1,.str a1)] [] (To.ah (Wp.seq (Wp.seq (rg [0,1,5] [] [(0,ls a0),(1,.str a1),(5,vi 0)] [] (To.ah (Wp.block ?_)))))))
 obtain⟨o1,ho1,h⟩:=au h
 refine kw [0,1,5] [] [(0,ls a0),(1,.str a1),(5,vi 0)] [] (Wp.bC (Io n a0 a1 n 0 o1 ho1 ?_))
 rcases o1 with o1|o1
 ·replace h:=cy h
  refine To.aX (To.ah (Wp.seq (rg [4] [] [(4,vb false)] [] (To.ah (Wp.ret ?_)))))
  cases h
  exact To.done hΓ (by kernel_rfl)
 ·replace h:=cH h
  refine To.aQ (To.aA ?_)
  cases h
  exact To.done hΓ (by kernel_rfl)
def rO(n:Nat)(v1:Bs)(v8:Bool)(v9:Int)(b3:af)(b5:af)(b6:af)(b7:af):Option (Bool×af) :=
 if(decide (0<=v9/\v9<(List.length b3.aj:Int)))=true then(if(decide ((List.length b7.aj+List.length ([((b3.aj)[Int.toNat v9]?.getD [])]:Ls))*(16+1)<=limit))=true then(if(decide (0<=v9/\v9<(List.length b3.aj:Int)))=true then(if(((b3.aj)[Int.toNat v9]?.getD [])==v1)=true then(if(decide ((List.length b7.ak+List.length ([b5]:List (af)))*(72+1)<=limit))=true then(some (true,(af.mk b7.av b7.aB (b7.aj++([((b3.aj)[Int.toNat v9]?.getD [])]:Ls)) (b7.ak++([b5]:List (af)))))) else none)
 else(if(decide (0<=v9/\v9<(List.length b3.ak:Int)))=true then(if(decide ((List.length b7.ak+List.length ([((b3.ak)[Int.toNat v9]?.getD (af.mk 0 [] [] []))]:List (af)))*(72+1)<=limit))=true then(some (v8,(af.mk b7.av b7.aB (b7.aj++([((b3.aj)[Int.toNat v9]?.getD [])]:Ls)) (b7.ak++([((b3.ak)[Int.toNat v9]?.getD (af.mk 0 [] [] []))]:List (af)))))) else none) else none)) else none) else none) else none
abbrev dh(k0:Nat)(k1:Nat)(x:af):List D:=[vi x.av,.str x.aB,.row k0,.row k1]
abbrev ye(x0:af)(x1:af):=(x0.ak++([x1]:List (af)))
abbrev jN(x0:af)(x1:Int):=([(cv x0 x1)]:Ls)
abbrev ya(x0:af)(x1:af)(x2:Int):=(x0.ak++([(ex5 x1 x2)]:List (af)))
abbrev UC(x0:af)(x1:af)(x2:Int):Nat×Nat×List D:=(4422,9,[rc1 (x0.aj++(jN x1 x2))])
theorem FO(n:Nat)(v1:Bs)(v8:Bool)(v9:Int)(b3:af)(b5:af)(b6:af)(b7:af)(o:Bool×af)(h:rO n v1 v8 v9 b3 b5 b6 b7=some o)(hQ:To 75 F0 w0 [(1,.str v1),(3,.own 3 0),(5,.own 5 0),(6,.own 6 0),(7,.own 7 0),(8,vb o.1),(9,vi v9)] [(3,25,qc6 b3),(5,25,qc6 b5),(6,25,qc6 b6),(7,25,dh 4422 4423 o.2),(4422,9,[rc1 o.2.aj]),(4423,25,[rc9 o.2.ak])] .normal Q):Wp Tryz.prog 75 F0 w0 [(1,.str v1),(3,.own 3 0),(5,.own 5 0),(6,.own 6 0),(7,.own 7 0),(8,vb v8),(9,vi v9)] [(3,25,qc6 b3),(5,25,qc6 b5),(6,25,qc6 b6),(7,25,dh 4422 4423 b7),(4422,9,[rc1 b7.aj]),(4423,25,[rc9 b7.ak])] (cA (cB (cI (cI (cB (cA (cB (cB (cB (cB (cF Tryz.f30))))))))))) Q:=by
 unfold rO at h
 refine Wp.block (Wp.seq ?_)
 obtain⟨hc5,h⟩:=ax h
 obtain⟨hc6,h⟩:=ax h
 refine Wp.bG hm hΓ [(7,ls ([(cv b3 v9)])),(8,.row 35),(1008,ls (b7.aj++(jN b3 v9)))] [1,3,5,6,7,8,9] [3,5,6,7,35,4423] (K':=[(1,.str v1),(3,.own 3 0),(5,.own 5 0),(6,.own 6 0),(7,.own 7 0),(8,vb v8),(9,vi v9)]) (L':=[(3,25,qc6 b3),(5,25,qc6 b5),(6,25,qc6 b6),(7,25,dh 35 4423 b7),(35,9,[rc1 (b7.aj++(jN b3 v9))]),(4423,25,[rc9 b7.ak])]) (ob:=[(FH v9 b3)=true,(true=true->bY 1 [.str (cv b3 v9)] 1 (ls ([(cv b3 v9)]))/\aM (ls ([(cv b3 v9)]))),(decide ((List.length b7.aj+List.length (jN b3 v9))*(16+1)<=limit))=true,(fY [] aR b7.aj (List.flatMap aR (jN b3 v9)) (List.length (jN b3 v9)) (ls (b7.aj++(jN b3 v9)))/\aM (ls (b7.aj++(jN b3 v9))))]) (by kernel_rfl) (ai.cons hc5 (ai.cons (fun _=>df (by kernel_rfl) rfl (by kernel_rfl) (aH _)) (ai.cons hc6 (ai.cons (gV rfl rfl (aH _)) ai.nil)))) (To.ah (Wp.seq ?_))
 obtain⟨hc4,h⟩:=ax h
 refine r0 [1,3,5,6,7,8,9,43] [3,5,6,7,35,4423] [(1,.str v1),(3,.own 3 0),(5,.own 5 0),(6,.own 6 0),(7,.own 7 0),(8,vb v8),(9,vi v9),(43,vb ((cv b3 v9)==v1))] [(3,25,qc6 b3),(5,25,qc6 b5),(6,25,qc6 b6),(7,25,dh 35 4423 b7),(35,9,[rc1 (b7.aj++(jN b3 v9))]),(4423,25,[rc9 b7.ak])] (ai.cons hc4 ai.nil) (To.ah (cn h (fun h=>?_) (fun h=>?_)))
 ·refine Wp.seq (rg [1,3,5,6,7,8,9] [3,5,6,7,35,4423] [(1,.str v1),(3,.own 3 0),(5,.own 5 0),(6,.own 6 0),(7,.own 7 0),(8,vb true),(9,vi v9)] [(3,25,qc6 b3),(5,25,qc6 b5),(6,25,qc6 b6),(7,25,dh 35 4423 b7),(35,9,[rc1 (b7.aj++(jN b3 v9))]),(4423,25,[rc9 b7.ak])] (To.ah ?_))
  obtain⟨hc1,h⟩:=ax h
  refine rr [] [(3,rs8 [b5]),(4,rs8 (ye b7 b5))] [] [1,3,5,6,7,8,9] [3,5,6,7,35,48] [(1,.str v1),(3,.own 3 0),(5,.own 5 0),(6,.own 6 0),(7,.own 7 0),(8,vb true),(9,vi v9)] [(3,25,qc6 b3),(5,25,qc6 b5),(6,25,qc6 b6),(7,25,dh 35 48 b7),(35,9,[rc1 (b7.aj++(jN b3 v9))]),(48,25,[rc9 (ye b7 b5)])] [(MO b5),_,(fY zx3 bX b7.ak (List.flatMap bX ([b5]:List (af))) (List.length ([b5]:List (af))) (rs8 (ye b7 b5))/\aM (rs8 (ye b7 b5)))] (ai.cons (df (by kernel_rfl) rfl (by kernel_rfl) (aY _)) (ai.cons hc1 (ai.cons (gV rfl rfl (aY _)) ai.nil))) (To.aO (nt [1,3,5,6,7,8,9] [3,5,6,7,35,48] [(35,4422),(48,4423)] [1,3,5,6,7,8,9] [3,5,6,7,4422,4423] [(1,.str v1),(3,.own 3 0),(5,.own 5 0),(6,.own 6 0),(7,.own 7 0),(8,vb true),(9,vi v9)] [(3,25,qc6 b3),(5,25,qc6 b5),(6,25,qc6 b6),(7,25,dh 4422 4423 b7),(UC b7 b3 v9),(4423,25,[rc9 (ye b7 b5)])] ?_))
  cases h
  exact hQ
 ·obtain⟨hc2,h⟩:=ax h
  obtain⟨hc3,h⟩:=ax h
  refine Wp.bG hm hΓ [(7,rs8 ([(ex5 b3 v9)])),(8,.row 58),(1008,rs8 (ya b7 b3 v9))] [1,3,5,6,7,8,9] [3,5,6,7,35,58] (K':=[(1,.str v1),(3,.own 3 0),(5,.own 5 0),(6,.own 6 0),(7,.own 7 0),(8,vb v8),(9,vi v9)]) (L':=[(3,25,qc6 b3),(5,25,qc6 b5),(6,25,qc6 b6),(7,25,dh 35 58 b7),(35,9,[rc1 (b7.aj++(jN b3 v9))]),(58,25,[rc9 (ya b7 b3 v9)])]) (ob:=[(ex6 v9 b3)=true,(true=true->bY 4 [vi ((ex5 b3 v9).av),.str ((ex5 b3 v9).aB),ls ((ex5 b3 v9).aj),tn4 ((ex5 b3 v9).ak)] 1 (rs8 ([(ex5 b3 v9)]))/\aM (rs8 ([(ex5 b3 v9)]))),(decide ((List.length b7.ak+List.length ([(ex5 b3 v9)]:List (af)))*(72+1)<=limit))=true,(fY zx3 bX b7.ak (List.flatMap bX ([(ex5 b3 v9)]:List (af))) (List.length ([(ex5 b3 v9)]:List (af))) (rs8 (ya b7 b3 v9))/\aM (rs8 (ya b7 b3 v9)))]) (by kernel_rfl) (ai.cons hc2 (ai.cons (fun _=>df (by kernel_rfl) rfl (by kernel_rfl) (aY _)) (ai.cons hc3 (ai.cons (gV rfl rfl (aY _)) ai.nil)))) (To.aO (nt [1,3,5,6,7,8,9] [3,5,6,7,35,58] [(35,4422),(58,4423)] [1,3,5,6,7,8,9] [3,5,6,7,4422,4423] [(1,.str v1),(3,.own 3 0),(5,.own 5 0),(6,.own 6 0),(7,.own 7 0),(8,vb v8),(9,vi v9)] [(3,25,qc6 b3),(5,25,qc6 b5),(6,25,qc6 b6),(7,25,dh 4422 4423 b7),(UC b7 b3 v9),(4423,25,[rc9 (ya b7 b3 v9)])] ?_))
  cases h
  exact hQ
def iU(n:Nat)(v1:Bs)(b3:af)(b5:af)(b6:af):Nat->Bool->Int->af->Option (Bool×af)
 |0,_,_,_=>none
 |k+1,v8,v9,b7=>if(decide (v9<(List.length b3.aj:Int)))=true then((rO n v1 v8 v9 b3 b5 b6 b7).bind fun o1 =>
 iU n v1 b3 b5 b6 k o1.1 (IntKind.wrap .i64 (v9+1)) o1.2)
 else(some (v8,b7))
theorem Es(n:Nat)(v1:Bs)(b3:af)(b5:af)(b6:af)(k:Nat):∀(v8:Bool)(v9:Int)(b7:af)(o:Bool×af),iU n v1 b3 b5 b6 k v8 v9 b7=some o->To 75 F0 w0 [(1,.str v1),(5,.own 5 0),(6,.own 6 0),(7,.own 7 0),(8,vb o.1)] [(5,25,qc6 b5),(6,25,qc6 b6),(7,25,dh 4422 4423 o.2),(4422,9,[rc1 o.2.aj]),(4423,25,[rc9 o.2.ak])] (.exit 0) Q->WL Tryz.prog 75 F0 w0 [(1,.str v1),(3,.own 3 0),(5,.own 5 0),(6,.own 6 0),(7,.own 7 0),(8,vb v8),(9,vi v9)] [(3,25,qc6 b3),(5,25,qc6 b5),(6,25,qc6 b6),(7,25,dh 4422 4423 b7),(4422,9,[rc1 b7.aj]),(4423,25,[rc9 b7.ak])] (cI (cI (cB (cA (cB (cB (cB (cB (cF Tryz.f30))))))))) Q:=by
 induction k with
 |zero=>intro v8 v9 b7 o h;cases h
 |succ k ih =>
  intro v8 v9 b7 o h hQ
  rw[iU] at h
  refine WL.round (Wp.seq (Wp.seq (rg [1,3,5,6,7,8,9,24] [3,5,6,7,4422,4423] [(1,.str v1),(3,.own 3 0),(5,.own 5 0),(6,.own 6 0),(7,.own 7 0),(8,vb v8),(9,vi v9),(24,vb (xq v9 b3))] [(3,25,qc6 b3),(5,25,qc6 b5),(6,25,qc6 b6),(7,25,dh 4422 4423 b7),(4422,9,[rc1 b7.aj]),(4423,25,[rc9 b7.ak])] (To.ah (cn h (fun h=>?_) (fun h=>?_))))))
  ·refine Wp.skip (To.ah (Wp.seq ?_))
   obtain⟨o1,ho1,h⟩:=au h
   refine kw [1,3,5,6,7,8,9] [3,5,6,7,4422,4423] [(1,.str v1),(3,.own 3 0),(5,.own 5 0),(6,.own 6 0),(7,.own 7 0),(8,vb v8),(9,vi v9)] [(3,25,qc6 b3),(5,25,qc6 b5),(6,25,qc6 b6),(7,25,dh 4422 4423 b7),(4422,9,[rc1 b7.aj]),(4423,25,[rc9 b7.ak])] (FO n v1 v8 v9 b3 b5 b6 b7 o1 ho1 (To.ah (rg [1,3,5,6,7,8,9] [3,5,6,7,4422,4423] [(1,.str v1),(3,.own 3 0),(5,.own 5 0),(6,.own 6 0),(7,.own 7 0),(8,vb o1.1),(xP v9)] [(3,25,qc6 b3),(5,25,qc6 b5),(6,25,qc6 b6),(7,25,dh 4422 4423 o1.2),(4422,9,[rc1 o1.2.aj]),(4423,25,[rc9 o1.2.ak])] (kt [1,3,5,6,7,8,9] [3,5,6,7,4422,4423] [(1,.str v1),(3,.own 3 0),(5,.own 5 0),(6,.own 6 0),(7,.own 7 0),(8,vb o1.1),(xP v9)] [(3,25,qc6 b3),(5,25,qc6 b5),(6,25,qc6 b6),(7,25,dh 4422 4423 o1.2),(4422,9,[rc1 o1.2.aj]),(4423,25,[rc9 o1.2.ak])] (To.again ?_)))))
   exact ih o1.1 (IntKind.wrap .i64 (v9+1)) o1.2 _ h hQ
  ·refine Wp.exit (To.aK (To.aK (kt [1,5,6,7,8] [5,6,7,4422,4423] [(1,.str v1),(5,.own 5 0),(6,.own 6 0),(7,.own 7 0),(8,vb v8)] [(5,25,qc6 b5),(6,25,qc6 b6),(7,25,dh 4422 4423 b7),(4422,9,[rc1 b7.aj]),(4423,25,[rc9 b7.ak])] ?_)))
   cases h
   exact hQ
def rP(n:Nat)(v1:Bs)(v61:Bool)(b5:af)(b6:af)(b7:af):Option (af) :=
 if v61=true then(if(decide ((List.length b7.aj+List.length ([v1]:Ls))*(16+1)<=limit))=true then(if(decide ((List.length b7.ak+List.length ([b5]:List (af)))*(72+1)<=limit))=true then(some (af.mk b7.av b7.aB (b7.aj++([v1]:Ls)) (b7.ak++([b5]:List (af))))) else none) else none)
 else some b7
abbrev Ie(x0:af)(x1:Bs):=(x0.aj++([x1]:Ls))
theorem EE(n:Nat)(v1:Bs)(v61:Bool)(b5:af)(b6:af)(b7:af)(o:af)(h:rP n v1 v61 b5 b6 b7=some o)(hQ:To 75 F0 w0 [(6,.own 6 0),(7,.own 7 0)] [(6,25,qc6 b6),(7,25,dh 4422 4423 o),(4422,9,[rc1 o.aj]),(4423,25,[rc9 o.ak])] .normal Q):Wp Tryz.prog 75 F0 w0 [(1,.str v1),(5,.own 5 0),(6,.own 6 0),(7,.own 7 0),(61,vb v61)] [(5,25,qc6 b5),(6,25,qc6 b6),(7,25,dh 4422 4423 b7),(4422,9,[rc1 b7.aj]),(4423,25,[rc9 b7.ak])] (cB (cA (cB (cB (cB (cB (cB (cF Tryz.f30)))))))) Q:=by
 unfold rP at h
 refine cn h (fun h=>?_) (fun h=>?_)
 ·refine Wp.seq ?_
  obtain⟨hc3,h⟩:=ax h
  refine rr [] [(3,ls [v1]),(4,ls (Ie b7 v1))] [] [5,6,7] [5,6,7,66,4423] [(5,.own 5 0),(6,.own 6 0),(7,.own 7 0)] [(5,25,qc6 b5),(6,25,qc6 b6),(7,25,dh 66 4423 b7),(66,9,[rc1 (Ie b7 v1)]),(4423,25,[rc9 b7.ak])] [(bY 1 [.str v1] 1 (ls [v1])/\aM (ls [v1])),_,(fY [] aR b7.aj (List.flatMap aR ([v1]:Ls)) (List.length ([v1]:Ls)) (ls (Ie b7 v1))/\aM (ls (Ie b7 v1)))] (ai.cons (df (by kernel_rfl) rfl (by kernel_rfl) (aH _)) (ai.cons hc3 (ai.cons (gV rfl rfl (aH _)) ai.nil))) (To.ah ?_)
  obtain⟨hc2,h⟩:=ax h
  refine rr [] [(3,rs8 [b5]),(4,rs8 (ye b7 b5))] [] [6,7] [6,7,66,72] [(6,.own 6 0),(7,.own 7 0)] [(6,25,qc6 b6),(7,25,dh 66 72 b7),(66,9,[rc1 (Ie b7 v1)]),(72,25,[rc9 (ye b7 b5)])] [(MO b5),_,(fY zx3 bX b7.ak (List.flatMap bX ([b5]:List (af))) (List.length ([b5]:List (af))) (rs8 (ye b7 b5))/\aM (rs8 (ye b7 b5)))] (ai.cons (df (by kernel_rfl) rfl (by kernel_rfl) (aY _)) (ai.cons hc2 (ai.cons (gV rfl rfl (aY _)) ai.nil))) (nt [6,7] [6,7,66,72] [(66,4422),(72,4423)] [6,7] [6,7,4422,4423] [(6,.own 6 0),(7,.own 7 0)] [(6,25,qc6 b6),(7,25,dh 4422 4423 b7),(4422,9,[rc1 (Ie b7 v1)]),(4423,25,[rc9 (ye b7 b5)])] ?_)
  cases h
  exact hQ
 ·refine Wp.skip (kt [6,7] [6,7,4422,4423] [(6,.own 6 0),(7,.own 7 0)] [(6,25,qc6 b6),(7,25,dh 4422 4423 b7),(4422,9,[rc1 b7.aj]),(4423,25,[rc9 b7.ak])] ?_)
  cases h
  exact hQ
def dA(n:Nat)(a0:af)(a1:Bs)(a2:af):Option (af) :=
 if(bif (a0.av != 0) then(a0.av != 3) else false)=true then some a0
 else((iU n a1 a0 a2 (af.mk 0 [] [] []) n false 0 (af.mk 3 [] [] [])).bind fun o1 =>
 (rP n a1 (!o1.1) a2 (af.mk 0 [] [] []) o1.2).bind fun o2 =>
 some o2)
abbrev RV(x0:af):=(bif (x0.av != 0) then(x0.av != 3) else false)
theorem dH(n:Nat)(a0:af)(a1:Bs)(a2:af)(r:af)(h:dA n a0 a1 a2=some r):aJ Tryz.prog 30 [.agg (qc6 a0),.str a1,.agg (qc6 a2)] (.agg (qc6 r)):=by
 unfold dA at h
 refine xo Tryz.f30 rfl fun F0 w0 _=>?_
 refine Wp.seq (rg [1,3,5,6] [3,5,6] [(1,.str a1),(3,.own 3 0),(5,.own 5 0),(6,.own 6 0)] [(3,25,qc6 a0),(5,25,qc6 a2),(6,25,[vi 0,.str [],.val (.slice none 0 0),.val (.slice none 0 0)])] (To.ah (Wp.seq (Wp.seq (rg [1,3,5,6,17] [3,5,6] [(1,.str a1),(3,.own 3 0),(5,.own 5 0),(6,.own 6 0),(17,vb (RV a0))] [(3,25,qc6 a0),(5,25,qc6 a2),(6,25,[vi 0,.str [],.val (.slice none 0 0),.val (.slice none 0 0)])] (To.ah (cn h (fun h=>?_) (fun h=>?_))))))))
 ·refine Wp.seq (rg [6] [6] [(6,.own 6 0)] [(6,25,qc6 a0)] (To.ah (Wp.ret (To.aA ?_))))
  cases h
  exact To.done hΓ (by kernel_rfl)
 ·refine Wp.skip (To.ah (Wp.seq (rg [1,3,5,6,7] [3,5,6,7] [(1,.str a1),(3,.own 3 0),(5,.own 5 0),(6,.own 6 0),(7,.own 7 0)] [(3,25,qc6 a0),(5,25,qc6 a2),(6,25,[vi 0,.str [],.val (.slice none 0 0),.val (.slice none 0 0)]),(7,25,[vi 3,.str [],.val (.slice none 0 0),.val (.slice none 0 0)])] (To.ah (Wp.seq (rg [1,3,5,6,7,8] [3,5,6,7] [(1,.str a1),(3,.own 3 0),(5,.own 5 0),(6,.own 6 0),(7,.own 7 0),(8,vb false)] [(3,25,qc6 a0),(5,25,qc6 a2),(6,25,[vi 0,.str [],.val (.slice none 0 0),.val (.slice none 0 0)]),(7,25,[vi 3,.str [],.val (.slice none 0 0),.val (.slice none 0 0)])] (To.ah (Wp.seq (Wp.seq (rg [1,3,5,6,7,8,9] [3,5,6,7] [(1,.str a1),(3,.own 3 0),(5,.own 5 0),(6,.own 6 0),(7,.own 7 0),(8,vb false),(9,vi 0)] [(3,25,qc6 a0),(5,25,qc6 a2),(6,25,[vi 0,.str [],.val (.slice none 0 0),.val (.slice none 0 0)]),(7,25,[vi 3,.str [],.val (.slice none 0 0),.val (.slice none 0 0)])] ?_))))))))))
  refine To.ah (Wp.block ?_)
  obtain⟨o1,ho1,h⟩:=au h
  refine kw [1,3,5,6,7,8,9] [3,5,6,7] [(1,.str a1),(3,.own 3 0),(5,.own 5 0),(6,.own 6 0),(7,.own 7 0),(8,vb false),(9,vi 0)] [(3,25,qc6 a0),(5,25,qc6 a2),(6,25,[vi 0,.str [],.val (.slice none 0 0),.val (.slice none 0 0)]),(7,25,[vi 3,.str [],.val (.slice none 0 0),.val (.slice none 0 0)])] (Wp.pre (St.oN 7 2 4422 9 (aH _) (by decide) (by kernel_rfl) (L':=[(3,25,qc6 a0),(5,25,qc6 a2),(6,25,[vi 0,.str [],.val (.slice none 0 0),.val (.slice none 0 0)]),(7,25,[vi 3,.str [],.row 4422,.val (.slice none 0 0)])]) (by kernel_rfl)) (kw [1,3,5,6,7,8,9] [3,5,6,7,4422] [(1,.str a1),(3,.own 3 0),(5,.own 5 0),(6,.own 6 0),(7,.own 7 0),(8,vb false),(9,vi 0)] [(3,25,qc6 a0),(5,25,qc6 a2),(6,25,[vi 0,.str [],.val (.slice none 0 0),.val (.slice none 0 0)]),(7,25,[vi 3,.str [],.row 4422,.val (.slice none 0 0)]),(4422,9,[rc1 []])] (Wp.pre (St.oN 7 3 4423 25 (aY _) (by decide) (by kernel_rfl) (L':=[(3,25,qc6 a0),(5,25,qc6 a2),(6,25,[vi 0,.str [],.val (.slice none 0 0),.val (.slice none 0 0)]),(7,25,[vi 3,.str [],.row 4422,.row 4423]),(4422,9,[rc1 []])]) (by kernel_rfl)) (kw [1,3,5,6,7,8,9] [3,5,6,7,4422,4423] [(1,.str a1),(3,.own 3 0),(5,.own 5 0),(6,.own 6 0),(7,.own 7 0),(8,vb false),(9,vi 0)] [(3,25,qc6 a0),(5,25,qc6 a2),(6,25,[vi 0,.str [],.val (.slice none 0 0),.val (.slice none 0 0)]),(7,25,[vi 3,.str [],.row 4422,.row 4423]),(4422,9,[rc1 []]),(4423,25,[rc9 []])] (Wp.weak (K':=[(1,.str a1),(3,.own 3 0),(5,.own 5 0),(6,.own 6 0),(7,.own 7 0),(8,vb false),(9,vi 0)]) (L':=[(3,25,qc6 a0),(5,25,qc6 a2),(6,25,[vi 0,.str [],ls [],tn4 []]),(7,25,[vi 3,.str [],.row 4422,.row 4423]),(4422,9,[rc1 []]),(4423,25,[rc9 []])]) (.cons (.refl _) (.cons (.refl _) (.cons (.refl _) (.cons (.refl _) (.cons (.refl _) (.cons (.refl _) (.cons (.refl _) .nil))))))) (.cons (.cons (.refl _) (.cons (.refl _) (.cons (.refl _) (.cons (.refl _) .nil)))) (.cons (.cons (.refl _) (.cons (.refl _) (.cons (.refl _) (.cons (.refl _) .nil)))) (.cons (.cons (.refl _) (.cons (.refl _) (.cons (.zero _ _) (.cons (.bu _ _ _) .nil)))) (.cons (.cons (.refl _) (.cons (.refl _) (.cons (.refl _) (.cons (.refl _) .nil)))) (.cons (.cons (.refl _) .nil) (.cons (.cons (.refl _) .nil) .nil)))))) (Wp.bC (Es n a1 a0 a2 zx3 n false 0 (af.mk 3 [] [] []) o1 ho1 (To.aX (To.ah (Wp.seq (Wp.seq ?_)))))))))))
  refine rg [1,5,6,7,61] [5,6,7,4422,4423] [(1,.str a1),(5,.own 5 0),(6,.own 6 0),(7,.own 7 0),(61,vb (!o1.1))] [(5,25,qc6 a2),(6,25,[vi 0,.str [],ls [],tn4 []]),(7,25,dh 4422 4423 o1.2),(4422,9,[rc1 o1.2.aj]),(4423,25,[rc9 o1.2.ak])] (To.ah ?_)
  obtain⟨o2,ho2,h⟩:=au h
  refine kw [1,5,6,7,61] [5,6,7,4422,4423] [(1,.str a1),(5,.own 5 0),(6,.own 6 0),(7,.own 7 0),(61,vb (!o1.1))] [(5,25,qc6 a2),(6,25,[vi 0,.str [],ls [],tn4 []]),(7,25,dh 4422 4423 o1.2),(4422,9,[rc1 o1.2.aj]),(4423,25,[rc9 o1.2.ak])] (EE n a1 (!o1.1) a2 zx3 o1.2 o2 ho2 (To.ah (Wp.seq (rg [6] [6,4422,4423] [(6,.own 6 0)] [(6,25,dh 4422 4423 o2),(4422,9,[rc1 o2.aj]),(4423,25,[rc9 o2.ak])] (To.ah (Wp.ret (To.pre (St.settle (ks:=[4422,4423]) (kk:=[6]) (kl:=[6,4422,4423]) (K':=[(6,.own 6 0)]) (L':=[(6,25,dh 4422 4423 o2),(4422,9,[rc2 o2.aj]),(4423,25,[iC o2.ak])]) (by kernel_rfl)) (To.pre (St.ug [6] (L':=[(6,25,MH o2),(4422,9,[rc2 o2.aj]),(4423,25,[iC o2.ak])]) (by kernel_rfl)) (To.weak (K':=[(6,.own 6 0)]) (L':=[(6,25,qc6 o2),(4422,9,[rc2 o2.aj]),(4423,25,[iC o2.ak])]) (.cons (.refl _) .nil) (.cons (.cons (.refl _) (.cons (.refl _) (.cons (.refl _) (.cons (.close _ _ _ _) .nil)))) (.cons (.cons (.refl _) .nil) (.cons (.cons (.refl _) .nil) .nil))) ?_)))))))))
  cases h
  exact To.done hΓ (by kernel_rfl)
def ko(n:Nat)(v1:Bs)(b2:af):Nat->Int->af->Option (Sum (af) (Bool×af))
 |0,_,_=>none
 |k+1,v6,b4=>if(decide (v6<(List.length b2.aj:Int)))=true then(if(decide (0<=v6/\v6<(List.length b2.aj:Int)))=true then(if(((b2.aj)[Int.toNat v6]?.getD [])==v1)=true then(if(decide (0<=v6/\v6<(List.length b2.ak:Int)))=true then(some (.inr (true,((b2.ak)[Int.toNat v6]?.getD (af.mk 0 [] [] []))))) else none)
 else(ko n v1 b2 k (IntKind.wrap .i64 (v6+1)) b4)) else none)
 else(some (.inl b4))
theorem F7(n:Nat)(v1:Bs)(b2:af)(k:Nat):∀(v6:Int)(b4:af)(o:Sum (af) (Bool×af)),ko n v1 b2 k v6 b4=some o->(Sum.elim (fun s=>To 30 F0 w0 [(4,.own 4 0)] [(4,25,qc6 s)] (.exit 0) Q) (fun s=>To 30 F0 w0 [(4,.own 4 0),(5,vb s.1)] [(4,25,qc6 s.2)] .ret Q)) o->WL Tryz.prog 30 F0 w0 [(1,.str v1),(2,.own 2 0),(4,.own 4 0),(6,vi v6)] [(2,25,qc6 b2),(4,25,qc6 b4)] (cI (cI (cB (cT (cB (cA (cB (cF Tryz.f21)))))))) Q:=by
 induction k with
 |zero=>intro v6 b4 o h;cases h
 |succ k ih =>
  intro v6 b4 o h hQ
  rw[ko] at h
  refine WL.round (Wp.seq (Wp.seq (rg [1,2,4,6,14] [2,4] [(1,.str v1),(2,.own 2 0),(4,.own 4 0),(6,vi v6),(14,vb (xq v6 b2))] [(2,25,qc6 b2),(4,25,qc6 b4)] (To.ah (cn h (fun h=>?_) (fun h=>?_))))))
  ·refine Wp.skip (To.ah (Wp.seq (Wp.block (Wp.seq ?_))))
   obtain⟨hc2,h⟩:=ax h
   refine r0 [1,2,4,6,23] [2,4] [(1,.str v1),(2,.own 2 0),(4,.own 4 0),(6,vi v6),(23,vb ((cv b2 v6)==v1))] [(2,25,qc6 b2),(4,25,qc6 b4)] (ai.cons hc2 ai.nil) (To.ah (cn h (fun h=>?_) (fun h=>?_)))
   ·refine Wp.seq ?_
    obtain⟨hc1,h⟩:=ax h
    refine r0 [4,5] [4] [(4,.own 4 0),(5,vb true)] [(4,25,[vi ((ex5 b2 v6).av),.str ((ex5 b2 v6).aB),ls ((ex5 b2 v6).aj),tn4 ((ex5 b2 v6).ak)])] (ai.cons hc1 ai.nil) (To.ah (Wp.ret (To.aQ (To.aA (To.aA ?_)))))
    cases h
    exact hQ
   ·refine Wp.skip (To.aO (To.ah (rg [1,2,4,6] [2,4] [(1,.str v1),(2,.own 2 0),(4,.own 4 0),(qh v6)] [(2,25,qc6 b2),(4,25,qc6 b4)] (kt [1,2,4,6] [2,4] [(1,.str v1),(2,.own 2 0),(4,.own 4 0),(qh v6)] [(2,25,qc6 b2),(4,25,qc6 b4)] (To.again ?_)))))
    exact ih (IntKind.wrap .i64 (v6+1)) b4 _ h hQ
  ·refine Wp.exit (To.aK (To.aK (kt [4] [4] [(4,.own 4 0)] [(4,25,qc6 b4)] ?_)))
   cases h
   exact hQ
def ui(n:Nat)(v1:Bs)(v9:Bool)(b2:af)(b4:af):Option (Sum (af) (Bool×af)) :=
 if v9=true then((ko n v1 b2 n 0 b4).bind fun o1 =>
 (Sum.elim (fun o1=>some (.inl o1)) (fun o1=>some (.inr (o1.1,o1.2)))) o1)
 else(some (.inl b4))
theorem GU(n:Nat)(v1:Bs)(v9:Bool)(b2:af)(b4:af)(o:Sum (af) (Bool×af))(h:ui n v1 v9 b2 b4=some o)(hQ:(Sum.elim (fun s=>To 30 F0 w0 [(4,.own 4 0)] [(4,25,qc6 s)] .normal Q) (fun s=>To 30 F0 w0 [(4,.own 4 0),(5,vb s.1)] [(4,25,qc6 s.2)] .ret Q)) o):Wp Tryz.prog 30 F0 w0 [(1,.str v1),(2,.own 2 0),(4,.own 4 0),(9,vb v9)] [(2,25,qc6 b2),(4,25,qc6 b4)] (cB (cA (cB (cF Tryz.f21)))) Q:=by
 unfold ui at h
 refine cn h (fun h=>?_) (fun h=>?_)
 ·refine Wp.seq (rg [1,2,4,6] [2,4] [(1,.str v1),(2,.own 2 0),(4,.own 4 0),(6,vi 0)] [(2,25,qc6 b2),(4,25,qc6 b4)] (To.ah (Wp.block ?_)))
  obtain⟨o1,ho1,h⟩:=au h
  refine kw [1,2,4,6] [2,4] [(1,.str v1),(2,.own 2 0),(4,.own 4 0),(6,vi 0)] [(2,25,qc6 b2),(4,25,qc6 b4)] (Wp.bC (F7 n v1 b2 n 0 b4 o1 ho1 ?_))
  rcases o1 with o1|o1
  ·replace h:=cy h
   refine To.aX (kt [4] [4] [(4,.own 4 0)] [(4,25,qc6 o1)] ?_)
   cases h
   exact hQ
  ·replace h:=cH h
   refine To.aQ (kt [4,5] [4] [(4,.own 4 0),(5,vb o1.1)] [(4,25,qc6 o1.2)] ?_)
   cases h
   exact hQ
 ·refine Wp.skip (kt [4] [4] [(4,.own 4 0)] [(4,25,qc6 b4)] ?_)
  cases h
  exact hQ
def jI(n:Nat)(a0:af)(a1:Bs):Option (af×Bool) :=
 (ui n a1 (a0.av==3) a0 (af.mk 0 [] [] [])).bind fun o1 =>
 (Sum.elim (fun o1=>some ((af.mk 0 [] [] []),false)) (fun o1=>some (o1.2,o1.1))) o1
theorem j6(n:Nat)(a0:af)(a1:Bs)(r:af×Bool)(h:jI n a0 a1=some r):aJ Tryz.prog 21 [.agg (qc6 a0),.str a1] (.tup [.agg (qc6 r.1),vb r.2]):=by
 unfold jI at h
 refine xo Tryz.f21 rfl fun F0 w0 _=>?_
 refine Wp.seq (rg [1,2,4] [2,4] [(1,.str a1),(2,.own 2 0),(4,.own 4 0)] [(2,25,qc6 a0),(4,25,[vi 0,.str [],.val (.slice none 0 0),.val (.slice none 0 0)])] (To.ah (Wp.seq (Wp.seq (rg [1,2,4,9] [2,4] [(1,.str a1),(2,.own 2 0),(4,.own 4 0),(9,vb (a0.av==3))] [(2,25,qc6 a0),(4,25,[vi 0,.str [],.val (.slice none 0 0),.val (.slice none 0 0)])] (To.ah ?_))))))
 obtain⟨o1,ho1,h⟩:=au h
 refine kw [1,2,4,9] [2,4] [(1,.str a1),(2,.own 2 0),(4,.own 4 0),(9,vb (a0.av==3))] [(2,25,qc6 a0),(4,25,[vi 0,.str [],.val (.slice none 0 0),.val (.slice none 0 0)])] (Wp.weak (K':=[(1,.str a1),(2,.own 2 0),(4,.own 4 0),(9,vb (a0.av==3))]) (L':=[(2,25,qc6 a0),(4,25,[vi 0,.str [],ls [],tn4 []])]) (.cons (.refl _) (.cons (.refl _) (.cons (.refl _) (.cons (.refl _) .nil)))) (.cons (.cons (.refl _) (.cons (.refl _) (.cons (.refl _) (.cons (.refl _) .nil)))) (.cons (.cons (.refl _) (.cons (.refl _) (.cons (.zero _ _) (.cons (.bu _ _ _) .nil)))) .nil)) (GU n a1 (a0.av==3) a0 zx3 o1 ho1 ?_))
 rcases o1 with o1|o1
 ·replace h:=cy h
  refine To.ah (Wp.seq (rg [4,5] [4] [(4,.own 4 0),(5,vb false)] [(4,25,[vi 0,.str [],.val (.slice none 0 0),.val (.slice none 0 0)])] (To.ah (Wp.ret (To.weak (K':=[(4,.own 4 0),(5,vb false)]) (L':=[(4,25,[vi 0,.str [],ls [],tn4 []])]) (.cons (.refl _) (.cons (.refl _) .nil)) (.cons (.cons (.refl _) (.cons (.refl _) (.cons (.zero _ _) (.cons (.bu _ _ _) .nil)))) .nil) ?_)))))
  cases h
  exact To.done hΓ (by kernel_rfl)
 ·replace h:=cH h
  refine To.aA ?_
  cases h
  exact To.done hΓ (by kernel_rfl)
def fL(R_ref08_Sorted:af->Option (af))(n:Nat)(v4:Ls)(b1:af)(b2:af):Nat->Int->af->Option (af)
 |0,_,_=>none
 |k+1,v5,b3=>if(decide (v5<(List.length v4:Int)))=true then(if(decide (0<=v5/\v5<(List.length v4:Int)))=true then((jI n b1 ((v4)[Int.toNat v5]?.getD [])).bind fun r2 =>
 if(decide (0<=v5/\v5<(List.length v4:Int)))=true then(if(decide ((List.length b3.aj+List.length ([((v4)[Int.toNat v5]?.getD [])]:Ls))*(16+1)<=limit))=true then((R_ref08_Sorted r2.1).bind fun r3 =>
 if(decide ((List.length b3.ak+List.length ([r3]:List (af)))*(72+1)<=limit))=true then(fL R_ref08_Sorted n v4 b1 b2 k (IntKind.wrap .i64 (v5+1)) (af.mk b3.av b3.aB (b3.aj++([((v4)[Int.toNat v5]?.getD [])]:Ls)) (b3.ak++([r3]:List (af))))) else none) else none) else none) else none)
 else some b3
abbrev Rq(R_ref08_Sorted:af->Option (af)):Prop:=∀(a0:af)(r:af),R_ref08_Sorted a0=some r->aJ Tryz.prog 31 [.agg [vi a0.av,.str a0.aB,ls a0.aj,tn4 a0.ak]] (.agg [vi r.av,.str r.aB,ls r.aj,tn4 r.ak])
abbrev ju(x0:Ls)(x1:Int):=([((x0)[Int.toNat x1]?.getD [])]:Ls)
abbrev yU(x0:Ls)(x1:Int):=([((x0)[Int.toNat x1]?.getD [])])
theorem A7(R_ref08_Sorted:af->Option (af))(hR_ref08_Sorted:Rq R_ref08_Sorted)(n:Nat)(v4:Ls)(b1:af)(b2:af)(k:Nat):∀(v5:Int)(b3:af)(o:af),fL R_ref08_Sorted n v4 b1 b2 k v5 b3=some o->To 71 F0 w0 [(2,.own 2 0),(3,.own 3 0)] [(2,25,qc6 b2),(3,25,dh 4182 4183 o),(4182,9,[rc1 o.aj]),(4183,25,[rc9 o.ak])] (.exit 0) Q->WL Tryz.prog 71 F0 w0 [(1,.own 1 0),(2,.own 2 0),(3,.own 3 0),(4,ls v4),(5,vi v5)] [(1,25,qc6 b1),(2,25,qc6 b2),(3,25,dh 4182 4183 b3),(4182,9,[rc1 b3.aj]),(4183,25,[rc9 b3.ak])] (cI (cI (cB (cA (cB (cT (cB (cA (cB (cB (cF Tryz.f31))))))))))) Q:=by
 induction k with
 |zero=>intro v5 b3 o h;cases h
 |succ k ih =>
  intro v5 b3 o h hQ
  rw[fL] at h
  refine WL.round (Wp.seq (Wp.seq (rg [1,2,3,4,5,23] [1,2,3,4182,4183] [(1,.own 1 0),(2,.own 2 0),(3,.own 3 0),(4,ls v4),(5,vi v5),(23,vb (ex4 v5 v4))] [(1,25,qc6 b1),(2,25,qc6 b2),(3,25,dh 4182 4183 b3),(4182,9,[rc1 b3.aj]),(4183,25,[rc9 b3.ak])] (To.ah (cn h (fun h=>?_) (fun h=>?_))))))
  ·refine Wp.skip (To.ah (Wp.seq (Wp.block (Wp.seq ?_))))
   obtain⟨hc7,h⟩:=ax h
   obtain⟨r2,hr2,h⟩:=au h
   refine Wp.bG hm hΓ [(5,.tup [.agg (qc6 r2.1),vb r2.2])] [1,2,3,4,5,6] [1,2,3,6,4182,4183] (K':=[(1,.own 1 0),(2,.own 2 0),(3,.own 3 0),(4,ls v4),(5,vi v5),(6,.own 6 0)]) (L':=[(1,25,qc6 b1),(2,25,qc6 b2),(3,25,dh 4182 4183 b3),(6,25,qc6 r2.1),(4182,9,[rc1 b3.aj]),(4183,25,[rc9 b3.ak])]) (ob:=[(xZ v5 v4)=true,(true=true->CX Tryz.prog 21 [.agg (qc6 b1),.str ((v4)[Int.toNat v5]?.getD [])] (.tup [.agg (qc6 r2.1),vb r2.2]))]) (by kernel_rfl) (ai.cons hc7 (ai.cons (fun _=>cx (j6 n b1 ((v4)[Int.toNat v5]?.getD []) _ hr2)) ai.nil)) (To.ah (Wp.seq ?_))
   obtain⟨hc5,h⟩:=ax h
   obtain⟨hc6,h⟩:=ax h
   refine Wp.bG hm hΓ [(6,ls (yU v4 v5)),(7,.row 42),(1007,ls (b3.aj++(ju v4 v5)))] [1,2,3,4,5,6] [1,2,3,6,42,4183] (K':=[(1,.own 1 0),(2,.own 2 0),(3,.own 3 0),(4,ls v4),(5,vi v5),(6,.own 6 0)]) (L':=[(1,25,qc6 b1),(2,25,qc6 b2),(3,25,dh 42 4183 b3),(6,25,qc6 r2.1),(42,9,[rc1 (b3.aj++(ju v4 v5))]),(4183,25,[rc9 b3.ak])]) (ob:=[(xZ v5 v4)=true,(true=true->bY 1 [.str ((v4)[Int.toNat v5]?.getD [])] 1 (ls (yU v4 v5))/\aM (ls (yU v4 v5))),(decide ((List.length b3.aj+List.length (ju v4 v5))*(16+1)<=limit))=true,(fY [] aR b3.aj (List.flatMap aR (ju v4 v5)) (List.length (ju v4 v5)) (ls (b3.aj++(ju v4 v5)))/\aM (ls (b3.aj++(ju v4 v5))))]) (by kernel_rfl) (ai.cons hc5 (ai.cons (fun _=>df (by kernel_rfl) rfl (by kernel_rfl) (aH _)) (ai.cons hc6 (ai.cons (gV rfl rfl (aH _)) ai.nil)))) (To.ah ?_)
   obtain⟨r3,hr3,h⟩:=au h
   obtain⟨hc4,h⟩:=ax h
   refine Wp.bG hm hΓ [(3,.agg (qc6 r3)),(4,rs8 [r3]),(5,.row 49),(1005,rs8 (b3.ak++([r3]:List (af))))] [1,2,3,4,5] [1,2,3,42,49] (K':=[(1,.own 1 0),(2,.own 2 0),(3,.own 3 0),(4,ls v4),(5,vi v5)]) (L':=[(1,25,qc6 b1),(2,25,qc6 b2),(3,25,dh 42 49 b3),(42,9,[rc1 (b3.aj++(ju v4 v5))]),(49,25,[rc9 (b3.ak++([r3]:List (af)))])]) (ob:=[(true=true->CX Tryz.prog 31 [.agg (qc6 r2.1)] (.agg (qc6 r3))),(true=true->bY 4 (qc6 r3) 1 (rs8 [r3])/\aM (rs8 [r3])),(decide ((List.length b3.ak+List.length ([r3]:List (af)))*(72+1)<=limit))=true,(fY zx3 bX b3.ak (List.flatMap bX ([r3]:List (af))) (List.length ([r3]:List (af))) (rs8 (b3.ak++([r3]:List (af))))/\aM (rs8 (b3.ak++([r3]:List (af)))))]) (by kernel_rfl) (ai.cons (fun _=>cx (hR_ref08_Sorted r2.1 _ hr3)) (ai.cons (fun _=>df (by kernel_rfl) rfl (by kernel_rfl) (aY _)) (ai.cons hc4 (ai.cons (gV rfl rfl (aY _)) ai.nil)))) (To.aO (To.ah (rg [1,2,3,4,5] [1,2,3,42,49] [(1,.own 1 0),(2,.own 2 0),(3,.own 3 0),(4,ls v4),(ex3 v5)] [(1,25,qc6 b1),(2,25,qc6 b2),(3,25,dh 42 49 b3),(42,9,[rc1 (b3.aj++(ju v4 v5))]),(49,25,[rc9 (b3.ak++([r3]:List (af)))])] (nt [1,2,3,4,5] [1,2,3,42,49] [(42,4182),(49,4183)] [1,2,3,4,5] [1,2,3,4182,4183] [(1,.own 1 0),(2,.own 2 0),(3,.own 3 0),(4,ls v4),(ex3 v5)] [(1,25,qc6 b1),(2,25,qc6 b2),(3,25,dh 4182 4183 b3),(4182,9,[rc1 (b3.aj++(ju v4 v5))]),(4183,25,[rc9 (b3.ak++([r3]:List (af)))])] (To.again ?_)))))
   exact ih (IntKind.wrap .i64 (v5+1)) (af.mk b3.av b3.aB (b3.aj++(ju v4 v5)) (b3.ak++([r3]:List (af)))) _ h hQ
  ·refine Wp.exit (To.aK (To.aK (kt [2,3] [2,3,4182,4183] [(2,.own 2 0),(3,.own 3 0)] [(2,25,qc6 b2),(3,25,dh 4182 4183 b3),(4182,9,[rc1 b3.aj]),(4183,25,[rc9 b3.ak])] ?_)))
   cases h
   exact hQ
def fF(R_ref08_Sorted:af->Option (af))(n:Nat)(b1:af)(b2:af):Nat->Int->af->Option (af)
 |0,_,_=>none
 |k+1,v8,b3=>if(decide (v8<(List.length b1.ak:Int)))=true then(if(decide (0<=v8/\v8<(List.length b1.ak:Int)))=true then((R_ref08_Sorted ((b1.ak)[Int.toNat v8]?.getD (af.mk 0 [] [] []))).bind fun r3 =>
 if(decide ((List.length b3.ak+List.length ([r3]:List (af)))*(72+1)<=limit))=true then(fF R_ref08_Sorted n b1 b2 k (IntKind.wrap .i64 (v8+1)) (af.mk b3.av b3.aB b3.aj (b3.ak++([r3]:List (af))))) else none) else none)
 else some b3
theorem AX(R_ref08_Sorted:af->Option (af))(hR_ref08_Sorted:Rq R_ref08_Sorted)(n:Nat)(b1:af)(b2:af)(k:Nat):∀(v8:Int)(b3:af)(o:af),fF R_ref08_Sorted n b1 b2 k v8 b3=some o->To 71 F0 w0 [(2,.own 2 0),(3,.own 3 0)] [(2,25,qc6 b2),(3,25,oV 4183 o),(4183,25,[rc9 o.ak])] (.exit 2) Q->WL Tryz.prog 71 F0 w0 [(1,.own 1 0),(2,.own 2 0),(3,.own 3 0),(8,vi v8)] [(1,25,qc6 b1),(2,25,qc6 b2),(3,25,oV 4183 b3),(4183,25,[rc9 b3.ak])] (cI (cI (cB (cA (cB (cB (cB (cF Tryz.f31)))))))) Q:=by
 induction k with
 |zero=>intro v8 b3 o h;cases h
 |succ k ih =>
  intro v8 b3 o h hQ
  rw[fF] at h
  refine WL.round (Wp.seq (Wp.seq (rg [1,2,3,8,56] [1,2,3,4183] [(1,.own 1 0),(2,.own 2 0),(3,.own 3 0),(8,vi v8),(56,vb (ex7 v8 b1))] [(1,25,qc6 b1),(2,25,qc6 b2),(3,25,oV 4183 b3),(4183,25,[rc9 b3.ak])] (To.ah (cn h (fun h=>?_) (fun h=>?_))))))
  ·refine Wp.skip (To.ah (Wp.seq (Wp.block ?_)))
   obtain⟨hc4,h⟩:=ax h
   obtain⟨r3,hr3,h⟩:=au h
   obtain⟨hc5,h⟩:=ax h
   refine Wp.bG hm hΓ [(7,.agg (qc6 r3)),(8,rs8 [r3]),(9,.row 68),(1009,rs8 (b3.ak++([r3]:List (af))))] [1,2,3,8] [1,2,3,68] (K':=[(1,.own 1 0),(2,.own 2 0),(3,.own 3 0),(8,vi v8)]) (L':=[(1,25,qc6 b1),(2,25,qc6 b2),(3,25,oV 68 b3),(68,25,[rc9 (b3.ak++([r3]:List (af)))])]) (ob:=[(ex6 v8 b1)=true,(true=true->CX Tryz.prog 31 [.agg [vi ((ex5 b1 v8).av),.str ((ex5 b1 v8).aB),ls ((ex5 b1 v8).aj),tn4 ((ex5 b1 v8).ak)]] (.agg (qc6 r3))),(true=true->bY 4 (qc6 r3) 1 (rs8 [r3])/\aM (rs8 [r3])),(decide ((List.length b3.ak+List.length ([r3]:List (af)))*(72+1)<=limit))=true,(fY zx3 bX b3.ak (List.flatMap bX ([r3]:List (af))) (List.length ([r3]:List (af))) (rs8 (b3.ak++([r3]:List (af))))/\aM (rs8 (b3.ak++([r3]:List (af)))))]) (by kernel_rfl) (ai.cons hc4 (ai.cons (fun _=>cx (hR_ref08_Sorted (ex5 b1 v8) _ hr3)) (ai.cons (fun _=>df (by kernel_rfl) rfl (by kernel_rfl) (aY _)) (ai.cons hc5 (ai.cons (gV rfl rfl (aY _)) ai.nil))))) (To.aO (To.ah (rg [1,2,3,8] [1,2,3,68] [(1,.own 1 0),(2,.own 2 0),(3,.own 3 0),(yk v8)] [(1,25,qc6 b1),(2,25,qc6 b2),(3,25,oV 68 b3),(68,25,[rc9 (b3.ak++([r3]:List (af)))])] (nt [1,2,3,8] [1,2,3,68] [(68,4183)] [1,2,3,8] [1,2,3,4183] [(1,.own 1 0),(2,.own 2 0),(3,.own 3 0),(yk v8)] [(1,25,qc6 b1),(2,25,qc6 b2),(3,25,oV 4183 b3),(4183,25,[rc9 (b3.ak++([r3]:List (af)))])] (To.again ?_)))))
   exact ih (IntKind.wrap .i64 (v8+1)) (af.mk b3.av b3.aB b3.aj (b3.ak++([r3]:List (af)))) _ h hQ
  ·refine Wp.exit (To.aK (To.aK (kt [2,3] [2,3,4183] [(2,.own 2 0),(3,.own 3 0)] [(2,25,qc6 b2),(3,25,oV 4183 b3),(4183,25,[rc9 b3.ak])] ?_)))
   cases h
   exact hQ
def nu(R_ref08_Sorted:af->Option (af))(n:Nat)(a0:af):Option (af) :=
 if(a0.av==3)=true then((gi n a0.aj).bind fun r1 =>
 (fL R_ref08_Sorted n r1 a0 (af.mk 0 [] [] []) n 0 (af.mk a0.av a0.aB [] [])).bind fun o2 =>
 some o2)
 else((fF R_ref08_Sorted n a0 (af.mk 0 [] [] []) n 0 (af.mk a0.av a0.aB [] [])).bind fun o3 =>
 some o3)
abbrev EB(x:af):List D:=[vi x.av,.str x.aB,.val (.slice none 0 0),.val (.slice none 0 0)]
abbrev UV(k0:Nat)(x:af):List D:=[vi x.av,.str x.aB,.row k0,.val (.slice none 0 0)]
abbrev Ur(k0:Nat)(x:af):List D:=[vi x.av,.str x.aB,.val (.slice none 0 0),.row k0]
theorem CJ(R_ref08_Sorted:af->Option (af))(hR_ref08_Sorted:Rq R_ref08_Sorted)(n:Nat)(a0:af)(r:af)(h:nu R_ref08_Sorted n a0=some r):aJ Tryz.prog 31 [.agg (qc6 a0)] (.agg (qc6 r)):=by
 unfold nu at h
 refine xo Tryz.f31 rfl fun F0 w0 _=>?_
 refine Wp.seq (rg [1,2] [1,2] [(1,.own 1 0),(2,.own 2 0)] [(1,25,qc6 a0),(2,25,[vi 0,.str [],.val (.slice none 0 0),.val (.slice none 0 0)])] (To.ah (Wp.seq (rg [1,2,3] [1,2,3] [(1,.own 1 0),(2,.own 2 0),(3,.own 3 0)] [(1,25,qc6 a0),(2,25,[vi 0,.str [],.val (.slice none 0 0),.val (.slice none 0 0)]),(3,25,EB a0)] (To.ah (Wp.seq (Wp.seq (rg [1,2,3,16] [1,2,3] [(1,.own 1 0),(2,.own 2 0),(3,.own 3 0),(16,vb (a0.av==3))] [(1,25,qc6 a0),(2,25,[vi 0,.str [],.val (.slice none 0 0),.val (.slice none 0 0)]),(3,25,EB a0)] (To.ah (cn h (fun h=>?_) (fun h=>?_)))))))))))
 ·refine Wp.seq ?_
  obtain⟨r1,hr1,h⟩:=au h
  refine rc [] 2 [1,2,3,4] [1,2,3] [(1,.own 1 0),(2,.own 2 0),(3,.own 3 0),(4,ls r1)] [(1,25,qc6 a0),(2,25,[vi 0,.str [],.val (.slice none 0 0),.val (.slice none 0 0)]),(3,25,EB a0)] (mh n a0.aj _ hr1) (To.ah (Wp.seq (Wp.seq (rg [1,2,3,4,5] [1,2,3] [(1,.own 1 0),(2,.own 2 0),(3,.own 3 0),(4,ls r1),(5,vi 0)] [(1,25,qc6 a0),(2,25,[vi 0,.str [],.val (.slice none 0 0),.val (.slice none 0 0)]),(3,25,EB a0)] (To.ah (Wp.block ?_))))))
  obtain⟨o2,ho2,h⟩:=au h
  refine kw [1,2,3,4,5] [1,2,3] [(1,.own 1 0),(2,.own 2 0),(3,.own 3 0),(4,ls r1),(5,vi 0)] [(1,25,qc6 a0),(2,25,[vi 0,.str [],.val (.slice none 0 0),.val (.slice none 0 0)]),(3,25,EB a0)] (Wp.pre (St.oN 3 2 4182 9 (aH _) (by decide) (by kernel_rfl) (L':=[(1,25,qc6 a0),(2,25,[vi 0,.str [],.val (.slice none 0 0),.val (.slice none 0 0)]),(3,25,UV 4182 a0)]) (by kernel_rfl)) (kw [1,2,3,4,5] [1,2,3,4182] [(1,.own 1 0),(2,.own 2 0),(3,.own 3 0),(4,ls r1),(5,vi 0)] [(1,25,qc6 a0),(2,25,[vi 0,.str [],.val (.slice none 0 0),.val (.slice none 0 0)]),(3,25,UV 4182 a0),(4182,9,[rc1 []])] (Wp.pre (St.oN 3 3 4183 25 (aY _) (by decide) (by kernel_rfl) (L':=[(1,25,qc6 a0),(2,25,[vi 0,.str [],.val (.slice none 0 0),.val (.slice none 0 0)]),(3,25,dh 4182 4183 a0),(4182,9,[rc1 []])]) (by kernel_rfl)) (kw [1,2,3,4,5] [1,2,3,4182,4183] [(1,.own 1 0),(2,.own 2 0),(3,.own 3 0),(4,ls r1),(5,vi 0)] [(1,25,qc6 a0),(2,25,[vi 0,.str [],.val (.slice none 0 0),.val (.slice none 0 0)]),(3,25,dh 4182 4183 a0),(4182,9,[rc1 []]),(4183,25,[rc9 []])] (Wp.weak (K':=[(1,.own 1 0),(2,.own 2 0),(3,.own 3 0),(4,ls r1),(5,vi 0)]) (L':=[(1,25,qc6 a0),(2,25,[vi 0,.str [],ls [],tn4 []]),(3,25,dh 4182 4183 a0),(4182,9,[rc1 []]),(4183,25,[rc9 []])]) (.cons (.refl _) (.cons (.refl _) (.cons (.refl _) (.cons (.refl _) (.cons (.refl _) .nil))))) (.cons (.cons (.refl _) (.cons (.refl _) (.cons (.refl _) (.cons (.refl _) .nil)))) (.cons (.cons (.refl _) (.cons (.refl _) (.cons (.zero _ _) (.cons (.bu _ _ _) .nil)))) (.cons (.cons (.refl _) (.cons (.refl _) (.cons (.refl _) (.cons (.refl _) .nil)))) (.cons (.cons (.refl _) .nil) (.cons (.cons (.refl _) .nil) .nil))))) (Wp.bC (A7 R_ref08_Sorted hR_ref08_Sorted n r1 a0 zx3 n 0 (af.mk a0.av a0.aB [] []) o2 ho2 (To.aX (To.ah (Wp.seq ?_))))))))))
  refine rg [2] [2,4182,4183] [(2,.own 2 0)] [(2,25,dh 4182 4183 o2),(4182,9,[rc1 o2.aj]),(4183,25,[rc9 o2.ak])] (To.ah (Wp.ret (To.aA (To.pre (St.settle (ks:=[4182,4183]) (kk:=[2]) (kl:=[2,4182,4183]) (K':=[(2,.own 2 0)]) (L':=[(2,25,dh 4182 4183 o2),(4182,9,[rc2 o2.aj]),(4183,25,[iC o2.ak])]) (by kernel_rfl)) (To.pre (St.ug [2] (L':=[(2,25,MH o2),(4182,9,[rc2 o2.aj]),(4183,25,[iC o2.ak])]) (by kernel_rfl)) (To.weak (K':=[(2,.own 2 0)]) (L':=[(2,25,qc6 o2),(4182,9,[rc2 o2.aj]),(4183,25,[iC o2.ak])]) (.cons (.refl _) .nil) (.cons (.cons (.refl _) (.cons (.refl _) (.cons (.refl _) (.cons (.close _ _ _ _) .nil)))) (.cons (.cons (.refl _) .nil) (.cons (.cons (.refl _) .nil) .nil))) ?_))))))
  cases h
  exact To.done hΓ (by kernel_rfl)
 ·refine Wp.skip (To.ah (Wp.seq (Wp.seq (rg [1,2,3,8] [1,2,3] [(1,.own 1 0),(2,.own 2 0),(3,.own 3 0),(8,vi 0)] [(1,25,qc6 a0),(2,25,[vi 0,.str [],.val (.slice none 0 0),.val (.slice none 0 0)]),(3,25,EB a0)] (To.ah (Wp.block ?_))))))
  obtain⟨o3,ho3,h⟩:=au h
  refine kw [1,2,3,8] [1,2,3] [(1,.own 1 0),(2,.own 2 0),(3,.own 3 0),(8,vi 0)] [(1,25,qc6 a0),(2,25,[vi 0,.str [],.val (.slice none 0 0),.val (.slice none 0 0)]),(3,25,EB a0)] (Wp.pre (St.oN 3 3 4183 25 (aY _) (by decide) (by kernel_rfl) (L':=[(1,25,qc6 a0),(2,25,[vi 0,.str [],.val (.slice none 0 0),.val (.slice none 0 0)]),(3,25,Ur 4183 a0)]) (by kernel_rfl)) (kw [1,2,3,8] [1,2,3,4183] [(1,.own 1 0),(2,.own 2 0),(3,.own 3 0),(8,vi 0)] [(1,25,qc6 a0),(2,25,[vi 0,.str [],.val (.slice none 0 0),.val (.slice none 0 0)]),(3,25,Ur 4183 a0),(4183,25,[rc9 []])] (Wp.weak (K':=[(1,.own 1 0),(2,.own 2 0),(3,.own 3 0),(8,vi 0)]) (L':=[(1,25,qc6 a0),(2,25,[vi 0,.str [],ls [],tn4 []]),(3,25,[vi a0.av,.str a0.aB,ls [],.row 4183]),(4183,25,[rc9 []])]) (.cons (.refl _) (.cons (.refl _) (.cons (.refl _) (.cons (.refl _) .nil)))) (.cons (.cons (.refl _) (.cons (.refl _) (.cons (.refl _) (.cons (.refl _) .nil)))) (.cons (.cons (.refl _) (.cons (.refl _) (.cons (.zero _ _) (.cons (.bu _ _ _) .nil)))) (.cons (.cons (.refl _) (.cons (.refl _) (.cons (.zero _ _) (.cons (.refl _) .nil)))) (.cons (.cons (.refl _) .nil) .nil)))) (Wp.bC (AX R_ref08_Sorted hR_ref08_Sorted n a0 zx3 n 0 (af.mk a0.av a0.aB [] []) o3 ho3 (To.aX (To.ah (Wp.seq (rg [2] [2,4183] [(2,.own 2 0)] [(2,25,oV 4183 o3),(4183,25,[rc9 o3.ak])] (To.ah (Wp.ret ?_)))))))))))
  refine To.pre (St.settle (ks:=[4183]) (kk:=[2]) (kl:=[2,4183]) (K':=[(2,.own 2 0)]) (L':=[(2,25,oV 4183 o3),(4183,25,[iC o3.ak])]) (by kernel_rfl)) (To.pre (St.ug [2] (L':=[(2,25,MH o3),(4183,25,[iC o3.ak])]) (by kernel_rfl)) (To.weak (K':=[(2,.own 2 0)]) (L':=[(2,25,qc6 o3),(4183,25,[iC o3.ak])]) (.cons (.refl _) .nil) (.cons (.cons (.refl _) (.cons (.refl _) (.cons (.refl _) (.cons (.close _ _ _ _) .nil)))) (.cons (.cons (.refl _) .nil) .nil)) ?_))
  cases h
  exact To.done hΓ (by kernel_rfl)
def dK:Nat->af->Option (af)
 |0=>fun _=>none
 |n+1=>nu (dK n) n
theorem pg(n:Nat):∀(a0:af)(r:af),dK n a0=some r->aJ Tryz.prog 31 [.agg (qc6 a0)] (.agg (qc6 r)):=by
 induction n with
 |zero=>intro a0 r h;cases h
 |succ n ih=>exact fun a0 r h=>CJ (dK n) ih n a0 r h
def eO(n:Nat)(a0:af)(a1:Bool):Option (af×Bool) :=
 if(bif (!a1) then true else(decide ((List.length a0.aj:Int)>32)))=true then(some ((af.mk 0 [] [] []),false))
 else((dK n (af.mk 3 a0.aB a0.aj a0.ak)).bind fun r1 =>
 some (r1,true))
theorem jJ(n:Nat)(a0:af)(a1:Bool)(r:af×Bool)(h:eO n a0 a1=some r):aJ Tryz.prog 49 [.agg (qc6 a0),vb a1] (.tup [.agg (qc6 r.1),vb r.2]):=by
 unfold eO at h
 refine xo Tryz.f49 rfl fun F0 w0 _=>?_
 refine Wp.seq (rg [1,2,4] [2,4] [(1,vb a1),(2,.own 2 0),(4,.own 4 0)] [(2,25,qc6 a0),(4,25,[vi 0,.str [],.val (.slice none 0 0),.val (.slice none 0 0)])] (To.ah (Wp.seq (Wp.seq (rg [2,4,13] [2,4] [(2,.own 2 0),(4,.own 4 0),(13,vb (bif (!a1) then true else(decide ((List.length a0.aj:Int)>32))))] [(2,25,qc6 a0),(4,25,[vi 0,.str [],.val (.slice none 0 0),.val (.slice none 0 0)])] (To.ah (cn h (fun h=>?_) (fun h=>?_))))))))
 ·refine Wp.seq (rg [4,5] [4] [(4,.own 4 0),(5,vb false)] [(4,25,[vi 0,.str [],.val (.slice none 0 0),.val (.slice none 0 0)])] (To.ah (Wp.ret (To.aA (To.weak (K':=[(4,.own 4 0),(5,vb false)]) (L':=[(4,25,[vi 0,.str [],ls [],tn4 []])]) (.cons (.refl _) (.cons (.refl _) .nil)) (.cons (.cons (.refl _) (.cons (.refl _) (.cons (.zero _ _) (.cons (.bu _ _ _) .nil)))) .nil) ?_)))))
  cases h
  exact To.done hΓ (by kernel_rfl)
 ·refine Wp.skip (To.ah (Wp.seq (rg [2,4] [2,4] [(2,.own 2 0),(4,.own 4 0)] [(2,25,[vi 3,.str a0.aB,ls a0.aj,tn4 a0.ak]),(4,25,[vi 0,.str [],.val (.slice none 0 0),.val (.slice none 0 0)])] (To.ah (Wp.seq ?_)))))
  obtain⟨r1,hr1,h⟩:=au h
  refine rc [] 1 [4,5] [4] [(4,.own 4 0),(5,vb true)] [(4,25,qc6 r1)] (pg n (af.mk 3 a0.aB a0.aj a0.ak) _ hr1) (To.ah (Wp.ret ?_))
  cases h
  exact To.done hΓ (by kernel_rfl)
def jS(n:Nat)(v1:Bool)(v7:Ls)(v9:Int)(b4:af)(b6:af):Nat->Int->Option (Int)
 |0,_=>none
 |k+1,v10=>if(decide (0<=v9/\v9<(List.length v7:Int)))=true then(if((!((decide (v10<(List.length ((v7)[Int.toNat v9]?.getD []):Int)))==true)||decide (0<=v9/\v9<(List.length v7:Int))))=true then(if((!((decide (v10<(List.length ((v7)[Int.toNat v9]?.getD []):Int)))==true)||decide (0<=v10/\v10<(List.length ((v7)[Int.toNat v9]?.getD []):Int))))=true then(aS ((bif (decide (v10<(List.length ((v7)[Int.toNat v9]?.getD []):Int))) then((((((v7)[Int.toNat v9]?.getD []))[Int.toNat v10]?.getD 0).toNat:Int) != 61) else false):Bool) fun x2 =>
 if x2=true then(jS n v1 v7 v9 b4 b6 k (IntKind.wrap .i64 (v10+1)))
 else some v10) else none) else none) else none
theorem CP(n:Nat)(v1:Bool)(v7:Ls)(v9:Int)(b4:af)(b6:af)(k:Nat):∀(v10:Int)(o:Int),jS n v1 v7 v9 b4 b6 k v10=some o->To 132 F0 w0 [(1,vb v1),(4,.own 4 0),(6,.own 6 0),(7,ls v7),(9,vi v9),(10,vi o)] [(4,25,qc6 b4),(6,25,qc6 b6)] (.exit 2) Q->WL Tryz.prog 132 F0 w0 [(1,vb v1),(4,.own 4 0),(6,.own 6 0),(7,ls v7),(9,vi v9),(10,vi v10)] [(4,25,qc6 b4),(6,25,qc6 b6)] (cI (cI (cA (cB (cI (cA (cB (cI (cI (cB (cA (cT (cB (cA (cB (cB (cB (cF Tryz.f71)))))))))))))))))) Q:=by
 induction k with
 |zero=>intro v10 o h;cases h
 |succ k ih =>
  intro v10 o h hQ
  rw[jS] at h
  refine WL.round (Wp.seq (Wp.seq ?_))
  obtain⟨hc3,h⟩:=ax h
  obtain⟨hc4,h⟩:=ax h
  obtain⟨hc5,h⟩:=ax h
  obtain⟨x2,hx2,h⟩:=aW h
  refine r0 [1,4,6,7,9,10,42] [4,6] [(1,vb v1),(4,.own 4 0),(6,.own 6 0),(7,ls v7),(9,vi v9),(10,vi v10),(42,vb (bif (decide (v10<(IE v7 v9))) then((((((v7)[Int.toNat v9]?.getD []))[Int.toNat v10]?.getD 0).toNat:Int) != 61) else false))] [(4,25,qc6 b4),(6,25,qc6 b6)] (ai.cons hc3 (ai.cons hc4 (ai.cons hc5 ai.nil))) (To.eq (K':=[(1,vb v1),(4,.own 4 0),(6,.own 6 0),(7,ls v7),(9,vi v9),(10,vi v10),(42,vb x2)]) (L':=[(4,25,qc6 b4),(6,25,qc6 b6)]) (by cases hx2;rfl) (by cases hx2;rfl) (To.ah (cn h (fun h=>?_) (fun h=>?_))))
  ·refine Wp.skip (To.ah (Wp.block (rg [1,4,6,7,9,10] [4,6] [(1,vb v1),(4,.own 4 0),(6,.own 6 0),(7,ls v7),(9,vi v9),(10,vi (IntKind.wrap .i64 (v10+1)))] [(4,25,qc6 b4),(6,25,qc6 b6)] (To.aO (To.again ?_)))))
   exact ih (IntKind.wrap .i64 (v10+1)) _ h hQ
  ·refine Wp.exit (To.aK (To.aK (kt [1,4,6,7,9,10] [4,6] [(1,vb v1),(4,.own 4 0),(6,.own 6 0),(7,ls v7),(9,vi v9),(10,vi v10)] [(4,25,qc6 b4),(6,25,qc6 b6)] ?_)))
   cases h
   exact hQ
def np(n:Nat)(v1:Bool)(v7:Ls)(v9:Int)(v10:Int)(v11:Bs)(v51:Bool)(b4:af)(b6:af):Option (Bs) :=
 if v51=true then(if(decide (0<=v9/\v9<(List.length v7:Int)))=true then(if(decide (0<=(IntKind.wrap .i64 (v10+1))/\(IntKind.wrap .i64 (v10+1))<=(List.length ((v7)[Int.toNat v9]?.getD []):Int)))=true then(some (List.drop (Int.toNat (IntKind.wrap .i64 (v10+1))) ((v7)[Int.toNat v9]?.getD []))) else none) else none)
 else some v11
abbrev Uh(x0:Int):=(Int.toNat (IntKind.wrap .i64 (x0+1)))
theorem Dw(n:Nat)(v1:Bool)(v7:Ls)(v9:Int)(v10:Int)(v11:Bs)(v51:Bool)(b4:af)(b6:af)(o:Bs)(h:np n v1 v7 v9 v10 v11 v51 b4 b6=some o)(hQ:To 132 F0 w0 [(1,vb v1),(4,.own 4 0),(6,.own 6 0),(7,ls v7),(9,vi v9),(10,vi v10),(11,.str o)] [(4,25,qc6 b4),(6,25,qc6 b6)] .normal Q):Wp Tryz.prog 132 F0 w0 [(1,vb v1),(4,.own 4 0),(6,.own 6 0),(7,ls v7),(9,vi v9),(10,vi v10),(11,.str v11),(51,vb v51)] [(4,25,qc6 b4),(6,25,qc6 b6)] (cB (cA (cB (cB (cB (cI (cA (cB (cI (cI (cB (cA (cT (cB (cA (cB (cB (cB (cF Tryz.f71))))))))))))))))))) Q:=by
 unfold np at h
 refine cn h (fun h=>?_) (fun h=>?_)
 ·obtain⟨hc3,h⟩:=ax h
  obtain⟨hc4,h⟩:=ax h
  refine r0 [1,4,6,7,9,10,11] [4,6] [(1,vb v1),(4,.own 4 0),(6,.own 6 0),(7,ls v7),(9,vi v9),(10,vi v10),(11,.str (List.drop (Uh v10) ((v7)[Int.toNat v9]?.getD [])))] [(4,25,qc6 b4),(6,25,qc6 b6)] (ai.cons hc3 (ai.cons hc4 ai.nil)) (kt [1,4,6,7,9,10,11] [4,6] [(1,vb v1),(4,.own 4 0),(6,.own 6 0),(7,ls v7),(9,vi v9),(10,vi v10),(11,.str (List.drop (Uh v10) ((v7)[Int.toNat v9]?.getD [])))] [(4,25,qc6 b4),(6,25,qc6 b6)] ?_)
  cases h
  exact hQ
 ·refine Wp.skip (kt [1,4,6,7,9,10,11] [4,6] [(1,vb v1),(4,.own 4 0),(6,.own 6 0),(7,ls v7),(9,vi v9),(10,vi v10),(11,.str v11)] [(4,25,qc6 b4),(6,25,qc6 b6)] ?_)
  cases h
  exact hQ
def nG(n:Nat)(v1:Bool)(v7:Ls)(v9:Int)(b4:af)(b6:af):Option (Sum (af×af) (Bool×af)) :=
 (jS n v1 v7 v9 b4 b6 n 0).bind fun o2 =>
 if(decide (0<=v9/\v9<(List.length v7:Int)))=true then((np n v1 v7 v9 o2 [] (decide (o2<(List.length ((v7)[Int.toNat v9]?.getD []):Int))) b4 b6).bind fun o3 =>
 if(decide (0<=v9/\v9<(List.length v7:Int)))=true then(if(decide (0<=o2/\o2<=(List.length ((v7)[Int.toNat v9]?.getD []):Int)))=true then((sJ n (List.take (Int.toNat o2) ((v7)[Int.toNat v9]?.getD [])) v1).bind fun r4 =>
 ((if((!r4)==false)=true then nR n b6.aj (List.take (Int.toNat o2) ((v7)[Int.toNat v9]?.getD [])) else some false)).bind fun r5 =>
 if(bif (!r4) then true else r5)=true then(some (.inr (false,(af.mk 0 [] [] []))))
 else(aS (dB o3) fun r6 =>
 (dA n b6 (List.take (Int.toNat o2) ((v7)[Int.toNat v9]?.getD [])) r6).bind fun r7 =>
 some (.inl (b4,r7)))) else none) else none) else none
theorem Db(n:Nat)(v1:Bool)(v7:Ls)(v9:Int)(b4:af)(b6:af)(o:Sum (af×af) (Bool×af))(h:nG n v1 v7 v9 b4 b6=some o)(hQ:(Sum.elim (fun s=>To 132 F0 w0 [(1,vb v1),(4,.own 4 0),(6,.own 6 0),(7,ls v7),(9,vi v9)] [(4,25,qc6 s.1),(6,25,qc6 s.2)] .normal Q) (fun s=>To 132 F0 w0 [(4,.own 4 0),(5,vb s.1)] [(4,25,qc6 s.2)] .ret Q)) o):Wp Tryz.prog 132 F0 w0 [(1,vb v1),(4,.own 4 0),(6,.own 6 0),(7,ls v7),(9,vi v9)] [(4,25,qc6 b4),(6,25,qc6 b6)] (cA (cB (cI (cI (cB (cA (cT (cB (cA (cB (cB (cB (cF Tryz.f71))))))))))))) Q:=by
 unfold nG at h
 refine Wp.block (Wp.seq (rg [1,4,6,7,9,10] [4,6] [(1,vb v1),(4,.own 4 0),(6,.own 6 0),(7,ls v7),(9,vi v9),(10,vi 0)] [(4,25,qc6 b4),(6,25,qc6 b6)] (To.ah (Wp.seq (Wp.block ?_)))))
 obtain⟨o2,ho2,h⟩:=au h
 refine kw [1,4,6,7,9,10] [4,6] [(1,vb v1),(4,.own 4 0),(6,.own 6 0),(7,ls v7),(9,vi v9),(10,vi 0)] [(4,25,qc6 b4),(6,25,qc6 b6)] (Wp.bC (CP n v1 v7 v9 b4 b6 n 0 o2 ho2 (To.aX (To.ah (Wp.seq (rg [1,4,6,7,9,10,11] [4,6] [(1,vb v1),(4,.own 4 0),(6,.own 6 0),(7,ls v7),(9,vi v9),(10,vi o2),(11,.str [])] [(4,25,qc6 b4),(6,25,qc6 b6)] (To.ah (Wp.seq (Wp.seq ?_)))))))))
 obtain⟨hc10,h⟩:=ax h
 refine r0 [1,4,6,7,9,10,11,51] [4,6] [(1,vb v1),(4,.own 4 0),(6,.own 6 0),(7,ls v7),(9,vi v9),(10,vi o2),(11,.str []),(51,vb (decide (o2<(IE v7 v9))))] [(4,25,qc6 b4),(6,25,qc6 b6)] (ai.cons hc10 ai.nil) (To.ah ?_)
 obtain⟨o3,ho3,h⟩:=au h
 refine kw [1,4,6,7,9,10,11,51] [4,6] [(1,vb v1),(4,.own 4 0),(6,.own 6 0),(7,ls v7),(9,vi v9),(10,vi o2),(11,.str []),(51,vb (decide (o2<(IE v7 v9))))] [(4,25,qc6 b4),(6,25,qc6 b6)] (Dw n v1 v7 v9 o2 [] (decide (o2<(IE v7 v9))) b4 b6 o3 ho3 (To.ah (Wp.seq ?_)))
 obtain⟨hc8,h⟩:=ax h
 obtain⟨hc9,h⟩:=ax h
 refine r0 [1,4,6,7,9,11,12] [4,6] [(1,vb v1),(4,.own 4 0),(6,.own 6 0),(7,ls v7),(9,vi v9),(11,.str o3),(12,.str (List.take (Int.toNat o2) ((v7)[Int.toNat v9]?.getD [])))] [(4,25,qc6 b4),(6,25,qc6 b6)] (ai.cons hc8 (ai.cons hc9 ai.nil)) (To.ah (Wp.seq (Wp.seq ?_)))
 obtain⟨r4,hr4,h⟩:=au h
 obtain⟨r5,hr5,h⟩:=au h
 refine rr [] [(2,vb r4),(8,vb r5)] [] [1,4,6,7,9,11,12,74] [4,6] [(1,vb v1),(4,.own 4 0),(6,.own 6 0),(7,ls v7),(9,vi v9),(11,.str o3),(12,.str (List.take (Int.toNat o2) ((v7)[Int.toNat v9]?.getD []))),(74,vb (bif (!r4) then true else r5))] [(4,25,qc6 b4),(6,25,qc6 b6)] [_,(((!r4)==false)=true->CX Tryz.prog 22 [ls b6.aj,.str (List.take (Int.toNat o2) ((v7)[Int.toNat v9]?.getD []))] (vb r5))] (ai.cons (c1 (BD n (List.take (Int.toNat o2) ((v7)[Int.toNat v9]?.getD [])) v1 _ hr4)) (ai.cons (fun hg=>cx (vq n b6.aj (List.take (Int.toNat o2) ((v7)[Int.toNat v9]?.getD [])) _ (iR hg hr5))) ai.nil)) (To.ah (cn h (fun h=>?_) (fun h=>?_)))
 ·refine Wp.seq (rg [4,5] [4] [(4,.own 4 0),(5,vb false)] [(4,25,[vi 0,.str [],.val (.slice none 0 0),.val (.slice none 0 0)])] (To.ah (Wp.ret (To.aA (To.aQ (To.weak (K':=[(4,.own 4 0),(5,vb false)]) (L':=[(4,25,[vi 0,.str [],ls [],tn4 []])]) (.cons (.refl _) (.cons (.refl _) .nil)) (.cons (.cons (.refl _) (.cons (.refl _) (.cons (.zero _ _) (.cons (.bu _ _ _) .nil)))) .nil) ?_))))))
  cases h
  exact hQ
 ·refine Wp.skip (To.ah ?_)
  obtain⟨r6,hr6,h⟩:=aW h
  obtain⟨r7,hr7,h⟩:=au h
  refine Wp.bG hm hΓ [(3,.agg (qc6 r6)),(4,.agg (qc6 r7))] [1,4,6,7,9] [4,6] (K':=[(1,vb v1),(4,.own 4 0),(6,.own 6 0),(7,ls v7),(9,vi v9)]) (L':=[(4,25,qc6 b4),(6,25,qc6 r7)]) (ob:=[(true=true->CX Tryz.prog 91 [.str o3] (.agg (qc6 r6))),(true=true->CX Tryz.prog 30 [.agg (qc6 b6),.str (List.take (Int.toNat o2) ((v7)[Int.toNat v9]?.getD [])),.agg (qc6 r6)] (.agg (qc6 r7)))]) (by kernel_rfl) (ai.cons (fun _=>cx (dN o3 _ hr6)) (ai.cons (fun _=>cx (dH n b6 (List.take (Int.toNat o2) ((v7)[Int.toNat v9]?.getD [])) r6 _ hr7)) ai.nil)) (To.aO (kt [1,4,6,7,9] [4,6] [(1,vb v1),(4,.own 4 0),(6,.own 6 0),(7,ls v7),(9,vi v9)] [(4,25,qc6 b4),(6,25,qc6 r7)] ?_))
  cases h
  exact hQ
def dZ(n:Nat)(v1:Bool)(v7:Ls):Nat->Int->af->af->Option (Sum (af×af) (Bool×af))
 |0,_,_,_=>none
 |k+1,v9,b4,b6=>if(decide (v9<(List.length v7:Int)))=true then((nG n v1 v7 v9 b4 b6).bind fun o2 =>
 (Sum.elim (fun o2=>dZ n v1 v7 k (IntKind.wrap .i64 (v9+1)) o2.1 o2.2) (fun o2=>some (.inr (o2.1,o2.2)))) o2)
 else(some (.inl (b4,b6)))
theorem C3(n:Nat)(v1:Bool)(v7:Ls)(k:Nat):∀(v9:Int)(b4:af)(b6:af)(o:Sum (af×af) (Bool×af)),dZ n v1 v7 k v9 b4 b6=some o->(Sum.elim (fun s=>To 132 F0 w0 [(4,.own 4 0),(6,.own 6 0)] [(4,25,qc6 s.1),(6,25,qc6 s.2)] (.exit 0) Q) (fun s=>To 132 F0 w0 [(4,.own 4 0),(5,vb s.1)] [(4,25,qc6 s.2)] .ret Q)) o->WL Tryz.prog 132 F0 w0 [(1,vb v1),(4,.own 4 0),(6,.own 6 0),(7,ls v7),(9,vi v9)] [(4,25,qc6 b4),(6,25,qc6 b6)] (cI (cI (cB (cA (cT (cB (cA (cB (cB (cB (cF Tryz.f71))))))))))) Q:=by
 induction k with
 |zero=>intro v9 b4 b6 o h;cases h
 |succ k ih =>
  intro v9 b4 b6 o h hQ
  rw[dZ] at h
  refine WL.round (Wp.seq (Wp.seq (rg [1,4,6,7,9,24] [4,6] [(1,vb v1),(4,.own 4 0),(6,.own 6 0),(7,ls v7),(9,vi v9),(24,vb (ex4 v9 v7))] [(4,25,qc6 b4),(6,25,qc6 b6)] (To.ah (cn h (fun h=>?_) (fun h=>?_))))))
  ·refine Wp.skip (To.ah (Wp.seq ?_))
   obtain⟨o2,ho2,h⟩:=au h
   refine kw [1,4,6,7,9] [4,6] [(1,vb v1),(4,.own 4 0),(6,.own 6 0),(7,ls v7),(9,vi v9)] [(4,25,qc6 b4),(6,25,qc6 b6)] (Db n v1 v7 v9 b4 b6 o2 ho2 ?_)
   rcases o2 with o2|o2
   ·replace h:=cy h
    refine To.ah (rg [1,4,6,7,9] [4,6] [(1,vb v1),(4,.own 4 0),(6,.own 6 0),(7,ls v7),(xP v9)] [(4,25,qc6 o2.1),(6,25,qc6 o2.2)] (kt [1,4,6,7,9] [4,6] [(1,vb v1),(4,.own 4 0),(6,.own 6 0),(7,ls v7),(xP v9)] [(4,25,qc6 o2.1),(6,25,qc6 o2.2)] (To.again ?_)))
    exact ih (IntKind.wrap .i64 (v9+1)) o2.1 o2.2 _ h hQ
   ·replace h:=cH h
    refine To.aA (To.aA (kt [4,5] [4] [(4,.own 4 0),(5,vb o2.1)] [(4,25,qc6 o2.2)] ?_))
    cases h
    exact hQ
  ·refine Wp.exit (To.aK (To.aK (kt [4,6] [4,6] [(4,.own 4 0),(6,.own 6 0)] [(4,25,qc6 b4),(6,25,qc6 b6)] ?_)))
   cases h
   exact hQ
def eE(n:Nat)(v1:Bool)(b2:af):Nat->Int->af->af->Option (Sum (af×af) (Bool×af))
 |0,_,_,_=>none
 |k+1,v13,b4,b6=>if(decide (v13<(List.length b2.aj:Int)))=true then(if(decide (0<=v13/\v13<(List.length b2.aj:Int)))=true then((sJ n ((b2.aj)[Int.toNat v13]?.getD []) v1).bind fun r4 =>
 if((!((!r4)==false)||decide (0<=v13/\v13<(List.length b2.ak:Int))))=true then(if(bif (!r4) then true else(decide ((((b2.ak)[Int.toNat v13]?.getD (af.mk 0 [] [] [])).av)>1)))=true then(some (.inr (false,(af.mk 0 [] [] []))))
 else(if(decide (0<=v13/\v13<(List.length b2.aj:Int)))=true then(if(decide (0<=v13/\v13<(List.length b2.ak:Int)))=true then(aS (dB (((b2.ak)[Int.toNat v13]?.getD (af.mk 0 [] [] [])).aB)) fun r5 =>
 (dA n b6 ((b2.aj)[Int.toNat v13]?.getD []) r5).bind fun r6 =>
 eE n v1 b2 k (IntKind.wrap .i64 (v13+1)) b4 r6) else none) else none)) else none) else none)
 else(some (.inl (b4,b6)))
abbrev Uw(x0:Int)(x1:af):=(0<=x0/\x0<(List.length x1.ak:Int))
theorem Di(n:Nat)(v1:Bool)(b2:af)(k:Nat):∀(v13:Int)(b4:af)(b6:af)(o:Sum (af×af) (Bool×af)),eE n v1 b2 k v13 b4 b6=some o->(Sum.elim (fun s=>To 132 F0 w0 [(4,.own 4 0),(6,.own 6 0)] [(4,25,qc6 s.1),(6,25,qc6 s.2)] (.exit 4) Q) (fun s=>To 132 F0 w0 [(4,.own 4 0),(5,vb s.1)] [(4,25,qc6 s.2)] .ret Q)) o->WL Tryz.prog 132 F0 w0 [(1,vb v1),(2,.own 2 0),(4,.own 4 0),(6,.own 6 0),(13,vi v13)] [(2,25,qc6 b2),(4,25,qc6 b4),(6,25,qc6 b6)] (cI (cI (cB (cA (cB (cB (cB (cB (cB (cF Tryz.f71)))))))))) Q:=by
 induction k with
 |zero=>intro v13 b4 b6 o h;cases h
 |succ k ih =>
  intro v13 b4 b6 o h hQ
  rw[eE] at h
  refine WL.round (Wp.seq (Wp.seq (rg [1,2,4,6,13,93] [2,4,6] [(1,vb v1),(2,.own 2 0),(4,.own 4 0),(6,.own 6 0),(13,vi v13),(93,vb (xq v13 b2))] [(2,25,qc6 b2),(4,25,qc6 b4),(6,25,qc6 b6)] (To.ah (cn h (fun h=>?_) (fun h=>?_))))))
  ·refine Wp.skip (To.ah (Wp.seq (Wp.block (Wp.seq (Wp.seq ?_)))))
   obtain⟨hc9,h⟩:=ax h
   obtain⟨r4,hr4,h⟩:=au h
   obtain⟨hc10,h⟩:=ax h
   refine rr [] [(6,vb r4)] [] [1,2,4,6,13,112] [2,4,6] [(1,vb v1),(2,.own 2 0),(4,.own 4 0),(6,.own 6 0),(13,vi v13),(112,vb (bif (!r4) then true else(decide (((ex5 b2 v13).av)>1))))] [(2,25,qc6 b2),(4,25,qc6 b4),(6,25,qc6 b6)] [_,_,_] (ai.cons hc9 (ai.cons (c1 (BD n (cv b2 v13) v1 _ hr4)) (ai.cons hc10 ai.nil))) (To.ah (cn h (fun h=>?_) (fun h=>?_)))
   ·refine Wp.seq (rg [4,5] [4] [(4,.own 4 0),(5,vb false)] [(4,25,[vi 0,.str [],.val (.slice none 0 0),.val (.slice none 0 0)])] (To.ah (Wp.ret (To.aA (To.aQ (To.aA (To.aA (To.weak (K':=[(4,.own 4 0),(5,vb false)]) (L':=[(4,25,[vi 0,.str [],ls [],tn4 []])]) (.cons (.refl _) (.cons (.refl _) .nil)) (.cons (.cons (.refl _) (.cons (.refl _) (.cons (.zero _ _) (.cons (.bu _ _ _) .nil)))) .nil) ?_))))))))
    cases h
    exact hQ
   ·refine Wp.skip (To.ah ?_)
    obtain⟨hc7,h⟩:=ax h
    obtain⟨hc8,h⟩:=ax h
    obtain⟨r5,hr5,h⟩:=aW h
    obtain⟨r6,hr6,h⟩:=au h
    refine Wp.bG hm hΓ [(12,.agg (qc6 r5)),(13,.agg (qc6 r6))] [1,2,4,6,13] [2,4,6] (K':=[(1,vb v1),(2,.own 2 0),(4,.own 4 0),(6,.own 6 0),(13,vi v13)]) (L':=[(2,25,qc6 b2),(4,25,qc6 b4),(6,25,qc6 r6)]) (ob:=[(FH v13 b2)=true,(ex6 v13 b2)=true,(true=true->CX Tryz.prog 91 [.str ((ex5 b2 v13).aB)] (.agg (qc6 r5))),(true=true->CX Tryz.prog 30 [.agg (qc6 b6),.str (cv b2 v13),.agg (qc6 r5)] (.agg (qc6 r6)))]) (by kernel_rfl) (ai.cons hc7 (ai.cons hc8 (ai.cons (fun _=>cx (dN ((ex5 b2 v13).aB) _ hr5)) (ai.cons (fun _=>cx (dH n b6 (cv b2 v13) r5 _ hr6)) ai.nil)))) (To.aO (To.ah (rg [1,2,4,6,13] [2,4,6] [(1,vb v1),(2,.own 2 0),(4,.own 4 0),(6,.own 6 0),(13,vi (IntKind.wrap .i64 (v13+1)))] [(2,25,qc6 b2),(4,25,qc6 b4),(6,25,qc6 r6)] (kt [1,2,4,6,13] [2,4,6] [(1,vb v1),(2,.own 2 0),(4,.own 4 0),(6,.own 6 0),(13,vi (IntKind.wrap .i64 (v13+1)))] [(2,25,qc6 b2),(4,25,qc6 b4),(6,25,qc6 r6)] (To.again ?_)))))
    exact ih (IntKind.wrap .i64 (v13+1)) b4 r6 _ h hQ
  ·refine Wp.exit (To.aK (To.aK (kt [4,6] [4,6] [(4,.own 4 0),(6,.own 6 0)] [(4,25,qc6 b4),(6,25,qc6 b6)] ?_)))
   cases h
   exact hQ
def qZ(n:Nat)(a0:af)(a1:Bool):Option (af×Bool) :=
 (fK n a0).bind fun r1 =>
 if r1.2=true then((dZ n a1 r1.1 n 0 (af.mk 0 [] [] []) (af.mk 0 [] [] [])).bind fun o2 =>
 (Sum.elim (fun o2=>(eO n o2.2 true).bind fun r3 =>
 some (r3.1,r3.2)) (fun o2=>some (o2.2,o2.1))) o2)
 else(if(a0.av != 3)=true then(some ((af.mk 0 [] [] []),false))
 else((eE n a1 a0 n 0 (af.mk 0 [] [] []) (af.mk 0 [] [] [])).bind fun o4 =>
 (Sum.elim (fun o4=>(eO n o4.2 true).bind fun r5 =>
 some (r5.1,r5.2)) (fun o4=>some (o4.2,o4.1))) o4))
theorem Hz(n:Nat)(a0:af)(a1:Bool)(r:af×Bool)(h:qZ n a0 a1=some r):aJ Tryz.prog 71 [.agg (qc6 a0),vb a1] (.tup [.agg (qc6 r.1),vb r.2]):=by
 unfold qZ at h
 refine xo Tryz.f71 rfl fun F0 w0 _=>?_
 refine Wp.seq (rg [1,2,4] [2,4] [(1,vb a1),(2,.own 2 0),(4,.own 4 0)] [(2,25,qc6 a0),(4,25,[vi 0,.str [],.val (.slice none 0 0),.val (.slice none 0 0)])] (To.ah (Wp.seq (rg [1,2,4,6] [2,4,6] [(1,vb a1),(2,.own 2 0),(4,.own 4 0),(6,.own 6 0)] [(2,25,qc6 a0),(4,25,[vi 0,.str [],.val (.slice none 0 0),.val (.slice none 0 0)]),(6,25,[vi 0,.str [],.val (.slice none 0 0),.val (.slice none 0 0)])] (To.ah (Wp.seq ?_))))))
 obtain⟨r1,hr1,h⟩:=au h
 refine rc [] 1 [1,2,4,6,7,8] [2,4,6] [(1,vb a1),(2,.own 2 0),(4,.own 4 0),(6,.own 6 0),(7,ls r1.1),(8,vb r1.2)] [(2,25,qc6 a0),(4,25,[vi 0,.str [],.val (.slice none 0 0),.val (.slice none 0 0)]),(6,25,[vi 0,.str [],.val (.slice none 0 0),.val (.slice none 0 0)])] (nD n a0 _ hr1) (To.ah (Wp.seq (Wp.seq (rg [1,2,4,6,7,20] [2,4,6] [(1,vb a1),(2,.own 2 0),(4,.own 4 0),(6,.own 6 0),(7,ls r1.1),(20,vb r1.2)] [(2,25,qc6 a0),(4,25,[vi 0,.str [],.val (.slice none 0 0),.val (.slice none 0 0)]),(6,25,[vi 0,.str [],.val (.slice none 0 0),.val (.slice none 0 0)])] (To.ah (cn h (fun h=>?_) (fun h=>?_)))))))
 ·refine Wp.seq (Wp.seq (rg [1,4,6,7,9] [4,6] [(1,vb a1),(4,.own 4 0),(6,.own 6 0),(7,ls r1.1),(9,vi 0)] [(4,25,[vi 0,.str [],.val (.slice none 0 0),.val (.slice none 0 0)]),(6,25,[vi 0,.str [],.val (.slice none 0 0),.val (.slice none 0 0)])] (To.ah (Wp.block ?_))))
  obtain⟨o2,ho2,h⟩:=au h
  refine kw [1,4,6,7,9] [4,6] [(1,vb a1),(4,.own 4 0),(6,.own 6 0),(7,ls r1.1),(9,vi 0)] [(4,25,[vi 0,.str [],.val (.slice none 0 0),.val (.slice none 0 0)]),(6,25,[vi 0,.str [],.val (.slice none 0 0),.val (.slice none 0 0)])] (Wp.weak (K':=[(1,vb a1),(4,.own 4 0),(6,.own 6 0),(7,ls r1.1),(9,vi 0)]) (L':=[(4,25,[vi 0,.str [],ls [],tn4 []]),(6,25,[vi 0,.str [],ls [],tn4 []])]) (.cons (.refl _) (.cons (.refl _) (.cons (.refl _) (.cons (.refl _) (.cons (.refl _) .nil))))) (.cons (.cons (.refl _) (.cons (.refl _) (.cons (.zero _ _) (.cons (.bu _ _ _) .nil)))) (.cons (.cons (.refl _) (.cons (.refl _) (.cons (.zero _ _) (.cons (.bu _ _ _) .nil)))) .nil)) (Wp.bC (C3 n a1 r1.1 n 0 zx3 zx3 o2 ho2 ?_)))
  rcases o2 with o2|o2
  ·replace h:=cy h
   refine To.aX (To.ah (Wp.seq ?_))
   obtain⟨r3,hr3,h⟩:=au h
   refine rc [] 1 [4,5] [4] [(4,.own 4 0),(5,vb r3.2)] [(4,25,qc6 r3.1)] (jJ n o2.2 true _ hr3) (To.ah (Wp.ret (To.aA ?_)))
   cases h
   exact To.done hΓ (by kernel_rfl)
  ·replace h:=cH h
   refine To.aQ (To.aA (To.aA ?_))
   cases h
   exact To.done hΓ (by kernel_rfl)
 ·refine Wp.skip (To.ah (Wp.seq (Wp.seq (rg [1,2,4,6,87] [2,4,6] [(1,vb a1),(2,.own 2 0),(4,.own 4 0),(6,.own 6 0),(87,vb (a0.av != 3))] [(2,25,qc6 a0),(4,25,[vi 0,.str [],.val (.slice none 0 0),.val (.slice none 0 0)]),(6,25,[vi 0,.str [],.val (.slice none 0 0),.val (.slice none 0 0)])] (To.ah (cn h (fun h=>?_) (fun h=>?_)))))))
  ·refine Wp.seq (rg [4,5] [4] [(4,.own 4 0),(5,vb false)] [(4,25,[vi 0,.str [],.val (.slice none 0 0),.val (.slice none 0 0)])] (To.ah (Wp.ret (To.aA (To.weak (K':=[(4,.own 4 0),(5,vb false)]) (L':=[(4,25,[vi 0,.str [],ls [],tn4 []])]) (.cons (.refl _) (.cons (.refl _) .nil)) (.cons (.cons (.refl _) (.cons (.refl _) (.cons (.zero _ _) (.cons (.bu _ _ _) .nil)))) .nil) ?_)))))
   cases h
   exact To.done hΓ (by kernel_rfl)
  ·refine Wp.skip (To.ah (Wp.seq (Wp.seq (rg [1,2,4,6,13] [2,4,6] [(1,vb a1),(2,.own 2 0),(4,.own 4 0),(6,.own 6 0),(13,vi 0)] [(2,25,qc6 a0),(4,25,[vi 0,.str [],.val (.slice none 0 0),.val (.slice none 0 0)]),(6,25,[vi 0,.str [],.val (.slice none 0 0),.val (.slice none 0 0)])] (To.ah (Wp.block ?_))))))
   obtain⟨o4,ho4,h⟩:=au h
   refine kw [1,2,4,6,13] [2,4,6] [(1,vb a1),(2,.own 2 0),(4,.own 4 0),(6,.own 6 0),(13,vi 0)] [(2,25,qc6 a0),(4,25,[vi 0,.str [],.val (.slice none 0 0),.val (.slice none 0 0)]),(6,25,[vi 0,.str [],.val (.slice none 0 0),.val (.slice none 0 0)])] (Wp.weak (K':=[(1,vb a1),(2,.own 2 0),(4,.own 4 0),(6,.own 6 0),(13,vi 0)]) (L':=[(2,25,qc6 a0),(4,25,[vi 0,.str [],ls [],tn4 []]),(6,25,[vi 0,.str [],ls [],tn4 []])]) (.cons (.refl _) (.cons (.refl _) (.cons (.refl _) (.cons (.refl _) (.cons (.refl _) .nil))))) (.cons (.cons (.refl _) (.cons (.refl _) (.cons (.refl _) (.cons (.refl _) .nil)))) (.cons (.cons (.refl _) (.cons (.refl _) (.cons (.zero _ _) (.cons (.bu _ _ _) .nil)))) (.cons (.cons (.refl _) (.cons (.refl _) (.cons (.zero _ _) (.cons (.bu _ _ _) .nil)))) .nil))) (Wp.bC (Di n a1 a0 n 0 zx3 zx3 o4 ho4 ?_)))
   rcases o4 with o4|o4
   ·replace h:=cy h
    refine To.aX (To.ah (Wp.seq ?_))
    obtain⟨r5,hr5,h⟩:=au h
    refine rc [] 1 [4,5] [4] [(4,.own 4 0),(5,vb r5.2)] [(4,25,qc6 r5.1)] (jJ n o4.2 true _ hr5) (To.ah (Wp.ret ?_))
    cases h
    exact To.done hΓ (by kernel_rfl)
   ·replace h:=cH h
    refine To.aQ (To.aA ?_)
    cases h
    exact To.done hΓ (by kernel_rfl)
def pJ(n:Nat)(v4:Ls)(v5:Bool)(v6:Int)(b1:af)(b2:af):Option (Bool) :=
 if(decide (0<=v6/\v6<(List.length b1.ak:Int)))=true then(if((!(((((b1.ak)[Int.toNat v6]?.getD (af.mk 0 [] [] [])).av) != 0)==true)||decide (0<=v6/\v6<(List.length b1.ak:Int))))=true then(if((!((((((b1.ak)[Int.toNat v6]?.getD (af.mk 0 [] [] [])).av) != 3)==false)&&(((((b1.ak)[Int.toNat v6]?.getD (af.mk 0 [] [] [])).av) != 0)==true))||decide (0<=v6/\v6<(List.length b1.ak:Int))))=true then(aS ((bif ((((b1.ak)[Int.toNat v6]?.getD (af.mk 0 [] [] [])).av) != 0) then(bif ((((b1.ak)[Int.toNat v6]?.getD (af.mk 0 [] [] [])).av) != 3) then true else(decide ((List.length (((b1.ak)[Int.toNat v6]?.getD (af.mk 0 [] [] [])).aj):Int)>0))) else false):Bool) fun x2 =>
 if x2=true then some false
 else some v5) else none) else none) else none
theorem GQ(n:Nat)(v4:Ls)(v5:Bool)(v6:Int)(b1:af)(b2:af)(o:Bool)(h:pJ n v4 v5 v6 b1 b2=some o)(hQ:To 85 F0 w0 [(1,.own 1 0),(2,.own 2 0),(4,ls v4),(5,vb o),(6,vi v6)] [(1,25,qc6 b1),(2,25,qc6 b2)] .normal Q):Wp Tryz.prog 85 F0 w0 [(1,.own 1 0),(2,.own 2 0),(4,ls v4),(5,vb v5),(6,vi v6)] [(1,25,qc6 b1),(2,25,qc6 b2)] (cA (cB (cI (cI (cB (cB (cB (cT (cB (cA (cB (cB (cF Tryz.f29))))))))))))) Q:=by
 unfold pJ at h
 refine Wp.block (Wp.seq ?_)
 obtain⟨hc3,h⟩:=ax h
 obtain⟨hc4,h⟩:=ax h
 obtain⟨hc5,h⟩:=ax h
 obtain⟨x2,hx2,h⟩:=aW h
 refine r0 [1,2,4,5,6,57] [1,2] [(1,.own 1 0),(2,.own 2 0),(4,ls v4),(5,vb v5),(6,vi v6),(57,vb (bif (((ex5 b1 v6).av) != 0) then(bif (((ex5 b1 v6).av) != 3) then true else(decide ((List.length ((ex5 b1 v6).aj):Int)>0))) else false))] [(1,25,qc6 b1),(2,25,qc6 b2)] (ai.cons hc3 (ai.cons hc4 (ai.cons hc5 ai.nil))) (To.eq (K':=[(1,.own 1 0),(2,.own 2 0),(4,ls v4),(5,vb v5),(6,vi v6),(57,vb x2)]) (L':=[(1,25,qc6 b1),(2,25,qc6 b2)]) (by cases hx2;rfl) (by cases hx2;rfl) (To.ah (cn h (fun h=>?_) (fun h=>?_))))
 ·refine rg [1,2,4,5,6] [1,2] [(1,.own 1 0),(2,.own 2 0),(4,ls v4),(5,vb false),(6,vi v6)] [(1,25,qc6 b1),(2,25,qc6 b2)] (To.aO ?_)
  cases h
  exact hQ
 ·refine Wp.skip (To.aO (kt [1,2,4,5,6] [1,2] [(1,.own 1 0),(2,.own 2 0),(4,ls v4),(5,vb v5),(6,vi v6)] [(1,25,qc6 b1),(2,25,qc6 b2)] ?_))
  cases h
  exact hQ
def iN(n:Nat)(v4:Ls)(b1:af)(b2:af):Nat->Bool->Int->Option (Bool)
 |0,_,_=>none
 |k+1,v5,v6=>if(decide (v6<(List.length b1.ak:Int)))=true then((pJ n v4 v5 v6 b1 b2).bind fun o2 =>
 iN n v4 b1 b2 k o2 (IntKind.wrap .i64 (v6+1)))
 else some v5
end Go.Proofs.YtpmmhhmhckpnfaaGreat.M
