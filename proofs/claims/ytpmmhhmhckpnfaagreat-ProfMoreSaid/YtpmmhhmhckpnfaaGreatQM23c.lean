import Derived.Test.YtpmmhhmhckpnfaaGreatQProf23
set_option linter.all false
namespace Go.Proofs.YtpmmhhmhckpnfaaGreat.M
open Go.RowKit Go.Proofs.YtpmmhhmhckpnfaaGreat.RX
set_option maxRecDepth 100000
variable {F0:Fz} {w0:Pt Tryz.prog} {Q:Exit->Act->World->Prop}
theorem AQ(n:Nat)(v0:Bs)(v3:Ls)(k:Nat):∀(v4:Int)(o:Sum (Unit) (Int)),iH n v0 v3 k v4=some o->(Sum.elim (fun s=>To 21 F0 w0 [(0,.str v0)] [] (.exit 0) Q) (fun s=>To 21 F0 w0 [(2,vi s)] [] .ret Q)) o->WL Tryz.prog 21 F0 w0 [(0,.str v0),(3,.row 1003),(4,vi v4)] [(1003,9,[rc1 v3])] (cI (cI (cB (cA (cB (cB (cF Tryz.f61))))))) Q:=by
 induction k with
 |zero=>intro v4 o h;cases h
 |succ k ih =>
  intro v4 o h hQ
  rw[iH] at h
  refine WL.round (Wp.seq (Wp.seq (rg [0,3,4,9] [1003] [(0,.str v0),(3,.row 1003),(4,vi v4),(9,vb (ex4 v4 v3))] [(1003,9,[rc1 v3])] (To.ah (cn h (fun h=>?_) (fun h=>?_))))))
  ·refine Wp.skip (To.ah (Wp.seq (Wp.block (Wp.seq ?_))))
   obtain⟨hc2,h⟩:=ax h
   refine r0 [0,3,4,17] [1003] [(0,.str v0),(3,.row 1003),(4,vi v4),(17,vb (((v3)[Int.toNat v4]?.getD [])==v0))] [(1003,9,[rc1 v3])] (ai.cons hc2 (ai.cons hc2 ai.nil)) (To.ah (cn h (fun h=>?_) (fun h=>?_)))
   ·refine Wp.seq (rg [2] [] [(2,vi v4)] [] (To.ah (Wp.ret (To.aP (To.aA (To.aA ?_))))))
    cases h
    exact hQ
   ·refine Wp.skip (To.aR (To.ah (rg [0,3,4] [1003] [(0,.str v0),(3,.row 1003),(lL v4)] [(1003,9,[rc1 v3])] (kt [0,3,4] [1003] [(0,.str v0),(3,.row 1003),(lL v4)] [(1003,9,[rc1 v3])] (To.again ?_)))))
    exact ih (IntKind.wrap .i64 (v4+1)) _ h hQ
  ·refine Wp.exit (To.aK (To.aK (kt [0] [] [(0,.str v0)] [] ?_)))
   cases h
   exact hQ
def pg(n:Nat)(a0:Bs):Option (Int) :=
 aQ ([mB,Br,Bn,Bo,Bv,Bg,Bd,Bw,wP,Bf,wX,BG,BF,Bj]:Ls) fun x1 =>
 (iH n a0 x1 n 0).bind fun o2 =>
 (Sum.elim (fun o2=>if(a0==sG)=true then some 8
 else(some (-1))) (fun o2=>some o2)) o2
theorem Fp(n:Nat)(a0:Bs)(r:Int)(h:pg n a0=some r):aJ Tryz.prog 61 [.str a0] (vi r):=by
 unfold pg at h
 refine xo Tryz.f61 rfl fun F0 w0 _=>?_
 refine Wp.seq (rg [0] [] [(0,.str a0)] [] (To.ah (Wp.seq ?_)))
 obtain⟨x1,hx1,h⟩:=aS h
 refine rr [] [(0,ls ([mB,Br,Bn,Bo,Bv,Bg,Bd,Bw,wP,Bf,wX,BG,BF,Bj]))] [] [0,3] [5] [(0,.str a0),(3,.row 5)] [(5,9,[rc1 ([mB,Br,Bn,Bo,Bv,Bg,Bd,Bw,wP,Bf,wX,BG,BF,Bj])])] [(ck 1 [.str mB,.str Br,.str Bn,.str Bo,.str Bv,.str Bg,.str Bd,.str Bw,.str wP,.str Bf,.str wX,.str BG,.str BF,.str Bj] 14 (ls ([mB,Br,Bn,Bo,Bv,Bg,Bd,Bw,wP,Bf,wX,BG,BF,Bj]))/\aM (ls ([mB,Br,Bn,Bo,Bv,Bg,Bd,Bw,wP,Bf,wX,BG,BF,Bj])))] (ai.cons (du (by kernel_rfl) rfl (by kernel_rfl) (aI _)) ai.nil) (To.eq (K':=[(0,.str a0),(3,.row 5)]) (L':=[(5,9,[rc1 x1])]) (by cases hx1;rfl) (by cases hx1;rfl) (To.ah (Wp.seq (Wp.seq (rg [0,3,4] [5] [(0,.str a0),(3,.row 5),(4,vi 0)] [(5,9,[rc1 x1])] (To.ah (Wp.block ?_)))))))
 obtain⟨o2,ho2,h⟩:=au h
 refine nw [0,3,4] [5] [(5,1003)] [0,3,4] [1003] [(0,.str a0),(3,.row 1003),(4,vi 0)] [(1003,9,[rc1 x1])] (Wp.bE (AQ n a0 x1 n 0 o2 ho2 ?_))
 rcases o2 with o2|o2
 ·replace h:=cv h
  refine To.aY (To.ah (Wp.seq (Wp.seq (rg [20] [] [(20,vb (a0==sG))] [] (To.ah (cn h (fun h=>?_) (fun h=>?_)))))))
  ·refine Wp.seq (rg [2] [] [(2,vi 8)] [] (To.ah (Wp.ret (To.aA ?_))))
   cases h
   exact To.done hΓ (by kernel_rfl)
  ·refine Wp.skip (To.ah (Wp.seq (rg [2] [] [(2,vi (-1))] [] (To.ah (Wp.ret ?_)))))
   cases h
   exact To.done hΓ (by kernel_rfl)
 ·replace h:=cy h
  refine To.aP (To.aA ?_)
  cases h
  exact To.done hΓ (by kernel_rfl)
def eG(n:Nat)(v0:Bs):Nat->Int->Option (Sum (Unit) (Bool))
 |0,_=>none
 |k+1,v3=>if(decide (v3<(List.length v0:Int)))=true then(if(decide (0<=v3/\v3<(List.length v0:Int)))=true then(if((!((decide ((((v0)[Int.toNat v3]?.getD 0).toNat:Int)<48))==false)||decide (0<=v3/\v3<(List.length v0:Int))))=true then(aQ ((bif (decide ((((v0)[Int.toNat v3]?.getD 0).toNat:Int)<48)) then true else(decide ((((v0)[Int.toNat v3]?.getD 0).toNat:Int)>57))):Bool) fun x2 =>
 if x2=true then(some (.inr false))
 else(eG n v0 k (IntKind.wrap .i64 (v3+1)))) else none) else none)
 else(some (.inl ()))
theorem B6(n:Nat)(v0:Bs)(k:Nat):∀(v3:Int)(o:Sum (Unit) (Bool)),eG n v0 k v3=some o->(Sum.elim (fun s=>To 33 F0 w0 [] [] (.exit 0) Q) (fun s=>To 33 F0 w0 [(2,vb s)] [] .ret Q)) o->WL Tryz.prog 33 F0 w0 [(0,.str v0),(3,vi v3)] [] (cI (cI (cB (cA (cB (cB (cF Tryz.f113))))))) Q:=by
 induction k with
 |zero=>intro v3 o h;cases h
 |succ k ih =>
  intro v3 o h hQ
  rw[eG] at h
  refine WL.round (Wp.seq (Wp.seq (rg [0,3,20] [] [(0,.str v0),(3,vi v3),(20,vb (mj v3 v0))] [] (To.ah (cn h (fun h=>?_) (fun h=>?_))))))
  ·refine Wp.skip (To.ah (Wp.seq (Wp.block (Wp.seq ?_))))
   obtain⟨hc3,h⟩:=ax h
   obtain⟨hc4,h⟩:=ax h
   obtain⟨x2,hx2,h⟩:=aS h
   refine r0 [0,3,32] [] [(0,.str v0),(3,vi v3),(32,vb (bif (decide ((bK v0 v3)<48)) then true else(decide ((bK v0 v3)>57))))] [] (ai.cons hc3 (ai.cons hc4 ai.nil)) (To.eq (K':=[(0,.str v0),(3,vi v3),(32,vb x2)]) (L':=[]) (by cases hx2;rfl) (by cases hx2;rfl) (To.ah (cn h (fun h=>?_) (fun h=>?_))))
   ·refine Wp.seq (rg [2] [] [(2,vb false)] [] (To.ah (Wp.ret (To.aP (To.aA (To.aA ?_))))))
    cases h
    exact hQ
   ·refine Wp.skip (To.aR (To.ah (rg [0,3] [] [(0,.str v0),(uz v3)] [] (kt [0,3] [] [(0,.str v0),(uz v3)] [] (To.again ?_)))))
    exact ih (IntKind.wrap .i64 (v3+1)) _ h hQ
  ·refine Wp.exit (To.aK (To.aK (kt [] [] [] [] ?_)))
   cases h
   exact hQ
def fO(n:Nat)(a0:Bs):Option (Bool) :=
 if((!(((decide ((List.length a0:Int)>1))==true)&&(((List.length a0:Int)==0)==false))||decide (0<=(0:Int)/\(0:Int)<(List.length a0:Int))))=true then(aQ ((bif ((List.length a0:Int)==0) then true else(bif (decide ((List.length a0:Int)>1)) then((((a0)[Int.toNat 0]?.getD 0).toNat:Int)==48) else false)):Bool) fun x1 =>
 if x1=true then some false
 else((eG n a0 n 0).bind fun o2 =>
 (Sum.elim (fun o2=>some true) (fun o2=>some o2)) o2)) else none
theorem jT(n:Nat)(a0:Bs)(r:Bool)(h:fO n a0=some r):aJ Tryz.prog 113 [.str a0] (vb r):=by
 unfold fO at h
 refine xo Tryz.f113 rfl fun F0 w0 _=>?_
 refine Wp.seq (rg [0] [] [(0,.str a0)] [] (To.ah (Wp.seq (Wp.seq ?_))))
 obtain⟨hc3,h⟩:=ax h
 obtain⟨x1,hx1,h⟩:=aS h
 refine r0 [0,16] [] [(0,.str a0),(16,vb (bif ((List.length a0:Int)==0) then true else(bif (decide ((List.length a0:Int)>1)) then((((a0)[Int.toNat 0]?.getD 0).toNat:Int)==48) else false)))] [] (ai.cons hc3 ai.nil) (To.eq (K':=[(0,.str a0),(16,vb x1)]) (L':=[]) (by cases hx1;rfl) (by cases hx1;rfl) (To.ah (cn h (fun h=>?_) (fun h=>?_))))
 ·refine Wp.seq (rg [2] [] [(2,vb false)] [] (To.ah (Wp.ret (To.aA ?_))))
  cases h
  exact To.done hΓ (by kernel_rfl)
 ·refine Wp.skip (To.ah (Wp.seq (Wp.seq (rg [0,3] [] [(0,.str a0),(3,vi 0)] [] (To.ah (Wp.block ?_))))))
  obtain⟨o2,ho2,h⟩:=au h
  refine kw [0,3] [] [(0,.str a0),(3,vi 0)] [] (Wp.bE (B6 n a0 n 0 o2 ho2 ?_))
  rcases o2 with o2|o2
  ·replace h:=cv h
   refine To.aY (To.ah (Wp.seq (rg [2] [] [(2,vb true)] [] (To.ah (Wp.ret ?_)))))
   cases h
   exact To.done hΓ (by kernel_rfl)
  ·replace h:=cy h
   refine To.aP (To.aA ?_)
   cases h
   exact To.done hΓ (by kernel_rfl)
def fJ(n:Nat)(v0:Bs)(v1:Int):Nat->Int->Int->Option (Int)
 |0,_,_=>none
 |k+1,v6,v7=>if(decide (v7<(List.length v0:Int)))=true then(if(decide (0<=v7/\v7<(List.length v0:Int)))=true then(aQ ((IntKind.wrap .u64 ((IntKind.wrap .u64 ((IntKind.wrap .u64 (v6*10))+(IntKind.wrap .u64 ((((v0)[Int.toNat v7]?.getD 0).toNat:Int)))))-48)):Int) fun x2 =>
 fJ n v0 v1 k x2 (IntKind.wrap .i64 (v7+1))) else none)
 else some v6
theorem CH(n:Nat)(v0:Bs)(v1:Int)(k:Nat):∀(v6:Int)(v7:Int)(o:Int),fJ n v0 v1 k v6 v7=some o->To 36 F0 w0 [(1,vi v1),(6,.val (.int .u64 o))] [] (.exit 0) Q->WL Tryz.prog 36 F0 w0 [(0,.str v0),(1,vi v1),(6,.val (.int .u64 v6)),(7,vi v7)] [] (cI (cI (cB (cA (cB (cB (cB (cB (cB (cF Tryz.f93)))))))))) Q:=by
 induction k with
 |zero=>intro v6 v7 o h;cases h
 |succ k ih =>
  intro v6 v7 o h hQ
  rw[fJ] at h
  refine WL.round (Wp.seq (Wp.seq (rg [0,1,6,7,19] [] [(0,.str v0),(1,vi v1),(6,.val (.int .u64 v6)),(7,vi v7),(19,vb (mj v7 v0))] [] (To.ah (cn h (fun h=>?_) (fun h=>?_))))))
  ·refine Wp.skip (To.ah (Wp.seq (Wp.block ?_)))
   obtain⟨hc3,h⟩:=ax h
   obtain⟨x2,hx2,h⟩:=aS h
   refine r0 [0,1,6,7] [] [(0,.str v0),(1,vi v1),(6,.val (.int .u64 (IntKind.wrap .u64 ((IntKind.wrap .u64 ((IntKind.wrap .u64 (v6*10))+(IntKind.wrap .u64 ((bK v0 v7)))))-48)))),(7,vi v7)] [] (ai.cons hc3 ai.nil) (To.eq (K':=[(0,.str v0),(1,vi v1),(6,.val (.int .u64 x2)),(7,vi v7)]) (L':=[]) (by cases hx2;rfl) (by cases hx2;rfl) (To.aR (To.ah (rg [0,1,6,7] [] [(0,.str v0),(1,vi v1),(6,.val (.int .u64 x2)),(ex7 v7)] [] (kt [0,1,6,7] [] [(0,.str v0),(1,vi v1),(6,.val (.int .u64 x2)),(ex7 v7)] [] (To.again ?_))))))
   exact ih x2 (IntKind.wrap .i64 (v7+1)) _ h hQ
  ·refine Wp.exit (To.aK (To.aK (kt [1,6] [] [(1,vi v1),(6,.val (.int .u64 v6))] [] ?_)))
   cases h
   exact hQ
def fL(n:Nat)(a0:Bs)(a1:Int):Option (Int×Int) :=
 if(decide (a1<0))=true then(some (0,2))
 else((fO n a0).bind fun r1 =>
 if(!r1)=true then(some (0,3))
 else(if(decide ((List.length a0:Int)>19))=true then(some (0,9))
 else((fJ n a0 a1 n 0 0).bind fun o2 =>
 if(decide (o2>(IntKind.wrap .u64 (a1))))=true then(some (0,9))
 else(some ((IntKind.wrap .i64 (o2)),0)))))
theorem kV(n:Nat)(a0:Bs)(a1:Int)(r:Int×Int)(h:fL n a0 a1=some r):aJ Tryz.prog 93 [.str a0,vi a1] (.tup [vi r.1,vi r.2]):=by
 unfold fL at h
 refine xo Tryz.f93 rfl fun F0 w0 _=>?_
 refine Wp.seq (rg [0,1] [] [(0,.str a0),(1,vi a1)] [] (To.ah (Wp.seq (Wp.seq (rg [0,1,9] [] [(0,.str a0),(1,vi a1),(9,vb (decide (a1<0)))] [] (To.ah (cn h (fun h=>?_) (fun h=>?_))))))))
 ·refine Wp.seq (rg [4,5] [] [(4,vi 0),(5,vi 2)] [] (To.ah (Wp.ret (To.aA ?_))))
  cases h
  exact To.done hΓ (by kernel_rfl)
 ·refine Wp.skip (To.ah (Wp.seq (Wp.seq ?_)))
  obtain⟨r1,hr1,h⟩:=au h
  refine rc [] 1 [0,1,12] [] [(0,.str a0),(1,vi a1),(12,vb (!r1))] [] (jT n a0 _ hr1) (To.ah (cn h (fun h=>?_) (fun h=>?_)))
  ·refine Wp.seq (rg [4,5] [] [(4,vi 0),(5,vi 3)] [] (To.ah (Wp.ret (To.aA ?_))))
   cases h
   exact To.done hΓ (by kernel_rfl)
  ·refine Wp.skip (To.ah (Wp.seq (Wp.seq (rg [0,1,15] [] [(0,.str a0),(1,vi a1),(15,vb (decide ((List.length a0:Int)>19)))] [] (To.ah (cn h (fun h=>?_) (fun h=>?_)))))))
   ·refine Wp.seq (rg [4,5] [] [(4,vi 0),(5,vi 9)] [] (To.ah (Wp.ret (To.aA ?_))))
    cases h
    exact To.done hΓ (by kernel_rfl)
   ·refine Wp.skip (To.ah (Wp.seq (rg [0,1,6] [] [(0,.str a0),(1,vi a1),(6,.val (.int .u64 0))] [] (To.ah (Wp.seq (Wp.seq (rg [0,1,6,7] [] [(0,.str a0),(1,vi a1),(6,.val (.int .u64 0)),(7,vi 0)] [] (To.ah (Wp.block ?_)))))))))
    obtain⟨o2,ho2,h⟩:=au h
    refine kw [0,1,6,7] [] [(0,.str a0),(1,vi a1),(6,.val (.int .u64 0)),(7,vi 0)] [] (Wp.bE (CH n a0 a1 n 0 0 o2 ho2 (To.aY (To.ah (Wp.seq (Wp.seq (rg [6,33] [] [(6,.val (.int .u64 o2)),(33,vb (decide (o2>(IntKind.wrap .u64 (a1)))))] [] (To.ah (cn h (fun h=>?_) (fun h=>?_))))))))))
    ·refine Wp.seq (rg [4,5] [] [(4,vi 0),(5,vi 9)] [] (To.ah (Wp.ret (To.aA ?_))))
     cases h
     exact To.done hΓ (by kernel_rfl)
    ·refine Wp.skip (To.ah (Wp.seq (rg [4,5] [] [(4,vi (IntKind.wrap .i64 (o2))),(5,vi 0)] [] (To.ah (Wp.ret ?_)))))
     cases h
     exact To.done hΓ (by kernel_rfl)
def qN(n:Nat)(a0:Bs):Option (Bool) :=
 if((!((decide ((List.length a0:Int)>11))==true)||decide (0<=(11:Int)/\(11:Int)<=(List.length a0:Int))))=true then(aQ ((bif (decide ((List.length a0:Int)>11)) then((List.take (Int.toNat 11) a0)==[111,110,45,102,97,105,108,117,114,101,58]) else false):Bool) fun x1 =>
 if x1=true then(if(decide (0<=(11:Int)/\(11:Int)<=(List.length a0:Int)))=true then((fL n (List.drop (Int.toNat 11) a0) 10).bind fun r2 =>
 some (bif (r2.2==0) then(decide (r2.1>0)) else false)) else none)
 else(aQ ((bif (bif (bif (a0==[110,111]) then true else(a0==[97,108,119,97,121,115])) then true else(a0==RZ)) then true else(a0==[111,110,45,102,97,105,108,117,114,101])):Bool) fun x4 =>
 some x4)) else none
theorem Ii(n:Nat)(a0:Bs)(r:Bool)(h:qN n a0=some r):aJ Tryz.prog 88 [.str a0] (vb r):=by
 unfold qN at h
 refine xo Tryz.f88 rfl fun F0 w0 _=>?_
 refine Wp.seq (rg [0] [] [(0,.str a0)] [] (To.ah (Wp.seq (Wp.seq ?_))))
 obtain⟨hc5,h⟩:=ax h
 obtain⟨x1,hx1,h⟩:=aS h
 refine r0 [0,12] [] [(0,.str a0),(12,vb (bif (decide ((List.length a0:Int)>11)) then((List.take (Int.toNat 11) a0)==[111,110,45,102,97,105,108,117,114,101,58]) else false))] [] (ai.cons hc5 ai.nil) (To.eq (K':=[(0,.str a0),(12,vb x1)]) (L':=[]) (by cases hx1;rfl) (by cases hx1;rfl) (To.ah (cn h (fun h=>?_) (fun h=>?_))))
 ·refine Wp.seq ?_
  obtain⟨hc3,h⟩:=ax h
  obtain⟨r2,hr2,h⟩:=au h
  refine rr [] [(2,.tup [vi r2.1,vi r2.2])] [] [3,4] [] [(3,vi r2.1),(4,vi r2.2)] [] [_,_] (ai.cons hc3 (ai.cons (c1 (kV n (List.drop (Int.toNat 11) a0) 10 _ hr2)) ai.nil)) (To.ah (Wp.seq (rg [2] [] [(2,vb (bif (r2.2==0) then(decide (r2.1>0)) else false))] [] (To.ah (Wp.ret (To.aA ?_))))))
  cases h
  exact To.done hΓ (by kernel_rfl)
 ·refine Wp.skip (To.ah (Wp.seq ?_))
  obtain⟨x4,hx4,h⟩:=aS h
  refine rg [2] [] [(2,vb (bif (bif (bif (a0==[110,111]) then true else(a0==[97,108,119,97,121,115])) then true else(a0==RZ)) then true else(a0==[111,110,45,102,97,105,108,117,114,101])))] [] (To.eq (K':=[(2,vb x4)]) (L':=[]) (by cases hx4;rfl) (by cases hx4;rfl) (To.ah (Wp.ret ?_)))
  cases h
  exact To.done hΓ (by kernel_rfl)
def ja(n:Nat)(v0:Bs):Nat->Int->Int->Option (Sum (Int) (Int))
 |0,_,_=>none
 |k+1,v3,v4=>if(decide (v4<(List.length v0:Int)))=true then(if(decide (0<=v4/\v4<(List.length v0:Int)))=true then(aQ ((IntKind.wrap .i64 ((IntKind.wrap .i64 ((IntKind.wrap .i64 (v3*10))+(IntKind.wrap .i64 ((((v0)[Int.toNat v4]?.getD 0).toNat:Int)))))-48)):Int) fun x1 =>
 if(decide (x1>=72057594037927936))=true then(some (.inr 1152921504606846976))
 else(ja n v0 k x1 (IntKind.wrap .i64 (v4+1)))) else none)
 else(some (.inl v3))
theorem CG(n:Nat)(v0:Bs)(k:Nat):∀(v3:Int)(v4:Int)(o:Sum (Int) (Int)),ja n v0 k v3 v4=some o->(Sum.elim (fun s=>To 22 F0 w0 [(3,vi s)] [] (.exit 0) Q) (fun s=>To 22 F0 w0 [(2,vi s)] [] .ret Q)) o->WL Tryz.prog 22 F0 w0 [(0,.str v0),(3,vi v3),(4,vi v4)] [] (cI (cI (cB (cA (cB (cB (cF Tryz.f114))))))) Q:=by
 induction k with
 |zero=>intro v3 v4 o h;cases h
 |succ k ih =>
  intro v3 v4 o h hQ
  rw[ja] at h
  refine WL.round (Wp.seq (Wp.seq (rg [0,3,4,8] [] [(0,.str v0),(3,vi v3),(4,vi v4),(8,vb (mj v4 v0))] [] (To.ah (cn h (fun h=>?_) (fun h=>?_))))))
  ·refine Wp.skip (To.ah (Wp.seq (Wp.block (Wp.seq ?_))))
   obtain⟨hc2,h⟩:=ax h
   obtain⟨x1,hx1,h⟩:=aS h
   refine r0 [0,3,4] [] [(0,.str v0),(3,vi (IntKind.wrap .i64 ((IntKind.wrap .i64 ((IntKind.wrap .i64 (v3*10))+(IntKind.wrap .i64 ((bK v0 v4)))))-48))),(4,vi v4)] [] (ai.cons hc2 ai.nil) (To.eq (K':=[(0,.str v0),(3,vi x1),(4,vi v4)]) (L':=[]) (by cases hx1;rfl) (by cases hx1;rfl) (To.ah (Wp.seq (rg [0,3,4,20] [] [(0,.str v0),(3,vi x1),(4,vi v4),(20,vb (decide (x1>=72057594037927936)))] [] (To.ah (cn h (fun h=>?_) (fun h=>?_)))))))
   ·refine Wp.seq (rg [2] [] [(2,vi 1152921504606846976)] [] (To.ah (Wp.ret (To.aP (To.aA (To.aA ?_))))))
    cases h
    exact hQ
   ·refine Wp.skip (To.aR (To.ah (rg [0,3,4] [] [(0,.str v0),(3,vi x1),(lL v4)] [] (kt [0,3,4] [] [(0,.str v0),(3,vi x1),(lL v4)] [] (To.again ?_)))))
    exact ih x1 (IntKind.wrap .i64 (v4+1)) _ h hQ
  ·refine Wp.exit (To.aK (To.aK (kt [3] [] [(3,vi v3)] [] ?_)))
   cases h
   exact hQ
def ik(n:Nat)(a0:Bs):Option (Int) :=
 (ja n a0 n 0 0).bind fun o1 =>
 (Sum.elim (fun o1=>some o1) (fun o1=>some o1)) o1
theorem nq(n:Nat)(a0:Bs)(r:Int)(h:ik n a0=some r):aJ Tryz.prog 114 [.str a0] (vi r):=by
 unfold ik at h
 refine xo Tryz.f114 rfl fun F0 w0 _=>?_
 refine Wp.seq (rg [0] [] [(0,.str a0)] [] (To.ah (Wp.seq (rg [0,3] [] [(0,.str a0),(3,vi 0)] [] (To.ah (Wp.seq (Wp.seq (rg [0,3,4] [] [(0,.str a0),(3,vi 0),(4,vi 0)] [] (To.ah (Wp.block ?_))))))))))
 obtain⟨o1,ho1,h⟩:=au h
 refine kw [0,3,4] [] [(0,.str a0),(3,vi 0),(4,vi 0)] [] (Wp.bE (CG n a0 n 0 0 o1 ho1 ?_))
 rcases o1 with o1|o1
 ·replace h:=cv h
  refine To.aY (To.ah (Wp.seq (rg [2] [] [(2,vi o1)] [] (To.ah (Wp.ret ?_)))))
  cases h
  exact To.done hΓ (by kernel_rfl)
 ·replace h:=cy h
  refine To.aP (To.aA ?_)
  cases h
  exact To.done hΓ (by kernel_rfl)
def jb(n:Nat)(v0:Bs):Nat->Int->Option (Int)
 |0,_=>none
 |k+1,v4=>if((!((decide (v4<(List.length v0:Int)))==true)||decide (0<=v4/\v4<(List.length v0:Int))))=true then(if(bif (decide (v4<(List.length v0:Int))) then((((v0)[Int.toNat v4]?.getD 0).toNat:Int) != 46) else false)=true then(jb n v0 k (IntKind.wrap .i64 (v4+1)))
 else some v4) else none
abbrev Va(x0:Int)(x1:Bs):=(!((mj x0 x1)==true)||decide (UZ x0 x1))
theorem BP(n:Nat)(v0:Bs)(k:Nat):∀(v4:Int)(o:Int),jb n v0 k v4=some o->To 89 F0 w0 [(0,.str v0),(4,vi o)] [] (.exit 0) Q->WL Tryz.prog 89 F0 w0 [(0,.str v0),(4,vi v4)] [] (cI (cI (cA (cB (cB (cF Tryz.f89)))))) Q:=by
 induction k with
 |zero=>intro v4 o h;cases h
 |succ k ih =>
  intro v4 o h hQ
  rw[jb] at h
  refine WL.round (Wp.seq (Wp.seq ?_))
  obtain⟨hc1,h⟩:=ax h
  refine r0 [0,4,17] [] [(0,.str v0),(4,vi v4),(17,vb (bif (mj v4 v0) then((bK v0 v4) != 46) else false))] [] (ai.cons hc1 ai.nil) (To.ah (cn h (fun h=>?_) (fun h=>?_)))
  ·refine Wp.skip (To.ah (Wp.block (rg [0,4] [] [(0,.str v0),(lL v4)] [] (To.aR (To.again ?_)))))
   exact ih (IntKind.wrap .i64 (v4+1)) _ h hQ
  ·refine Wp.exit (To.aK (To.aK (kt [0,4] [] [(0,.str v0),(4,vi v4)] [] ?_)))
   cases h
   exact hQ
def pV(n:Nat)(v0:Bs)(v4:Int)(v5:Bs)(v23:Bool):Option (Sum (Bs) (Int×Int)) :=
 if v23=true then(if(decide (0<=(IntKind.wrap .i64 (v4+1))/\(IntKind.wrap .i64 (v4+1))<=(List.length v0:Int)))=true then(if((!((bif (decide ((List.length (List.drop (Int.toNat (IntKind.wrap .i64 (v4+1))) v0):Int)<1)) then true else(decide ((List.length (List.drop (Int.toNat (IntKind.wrap .i64 (v4+1))) v0):Int)>3)))==false)||decide (0<=(IntKind.wrap .i64 ((List.length (List.drop (Int.toNat (IntKind.wrap .i64 (v4+1))) v0):Int)-1))/\(IntKind.wrap .i64 ((List.length (List.drop (Int.toNat (IntKind.wrap .i64 (v4+1))) v0):Int)-1))<(List.length (List.drop (Int.toNat (IntKind.wrap .i64 (v4+1))) v0):Int))))=true then(aQ ((bif (bif (decide ((List.length (List.drop (Int.toNat (IntKind.wrap .i64 (v4+1))) v0):Int)<1)) then true else(decide ((List.length (List.drop (Int.toNat (IntKind.wrap .i64 (v4+1))) v0):Int)>3))) then true else(((((List.drop (Int.toNat (IntKind.wrap .i64 (v4+1))) v0))[Int.toNat (IntKind.wrap .i64 ((List.length (List.drop (Int.toNat (IntKind.wrap .i64 (v4+1))) v0):Int)-1))]?.getD 0).toNat:Int)==48)):Bool) fun x2 =>
 if x2=true then(some (.inr (0,3)))
 else(some (.inl (List.drop (Int.toNat (IntKind.wrap .i64 (v4+1))) v0)))) else none) else none)
 else(some (.inl v5))
abbrev xK(x0:Int)(x1:Bs):=(List.drop (Int.toNat (IntKind.wrap .i64 (x0+1))) x1)
abbrev U9(x0:Int)(x1:Bs):=(decide (0<=(IntKind.wrap .i64 (x0+1))/\(IntKind.wrap .i64 (x0+1))<=(List.length x1:Int)))
theorem Cc(n:Nat)(v0:Bs)(v4:Int)(v5:Bs)(v23:Bool)(o:Sum (Bs) (Int×Int))(h:pV n v0 v4 v5 v23=some o)(hQ:(Sum.elim (fun s=>To 89 F0 w0 [(0,.str v0),(4,vi v4),(5,.str s)] [] .normal Q) (fun s=>To 89 F0 w0 [(2,vi s.1),(3,vi s.2)] [] .ret Q)) o):Wp Tryz.prog 89 F0 w0 [(0,.str v0),(4,vi v4),(5,.str v5),(23,vb v23)] [] (cB (cA (cB (cB (cB (cB (cF Tryz.f89))))))) Q:=by
 unfold pV at h
 refine cn h (fun h=>?_) (fun h=>?_)
 ·refine Wp.seq ?_
  obtain⟨hc4,h⟩:=ax h
  refine r0 [0,4,5] [] [(0,.str v0),(4,vi v4),(5,.str (xK v4 v0))] [] (ai.cons hc4 ai.nil) (To.ah (Wp.seq ?_))
  obtain⟨hc3,h⟩:=ax h
  obtain⟨x2,hx2,h⟩:=aS h
  refine r0 [0,4,5,43] [] [(0,.str v0),(4,vi v4),(5,.str (xK v4 v0)),(43,vb (bif (bif (decide ((List.length (xK v4 v0):Int)<1)) then true else(decide ((List.length (xK v4 v0):Int)>3))) then true else(((((xK v4 v0))[Int.toNat (IntKind.wrap .i64 ((List.length (xK v4 v0):Int)-1))]?.getD 0).toNat:Int)==48)))] [] (ai.cons hc3 ai.nil) (To.eq (K':=[(0,.str v0),(4,vi v4),(5,.str (xK v4 v0)),(43,vb x2)]) (L':=[]) (by cases hx2;rfl) (by cases hx2;rfl) (To.ah (cn h (fun h=>?_) (fun h=>?_))))
  ·refine Wp.seq (rg [2,3] [] [(2,vi 0),(3,vi 3)] [] (To.ah (Wp.ret ?_)))
   cases h
   exact hQ
  ·refine Wp.skip (kt [0,4,5] [] [(0,.str v0),(4,vi v4),(5,.str (xK v4 v0))] [] ?_)
   cases h
   exact hQ
 ·refine Wp.skip (kt [0,4,5] [] [(0,.str v0),(4,vi v4),(5,.str v5)] [] ?_)
  cases h
  exact hQ
def iy(n:Nat)(v0:Bs)(v4:Int)(v5:Bs):Nat->Int->Option (Sum (Unit) (Int×Int))
 |0,_=>none
 |k+1,v6=>if(decide (v6<(List.length v5:Int)))=true then(if(decide (0<=v6/\v6<(List.length v5:Int)))=true then(if((!((decide ((((v5)[Int.toNat v6]?.getD 0).toNat:Int)<48))==false)||decide (0<=v6/\v6<(List.length v5:Int))))=true then(aQ ((bif (decide ((((v5)[Int.toNat v6]?.getD 0).toNat:Int)<48)) then true else(decide ((((v5)[Int.toNat v6]?.getD 0).toNat:Int)>57))):Bool) fun x4 =>
 if x4=true then(some (.inr (0,3)))
 else(iy n v0 v4 v5 k (IntKind.wrap .i64 (v6+1)))) else none) else none)
 else(some (.inl ()))
abbrev tZ(x0:Int):Nat×D:=(6,vi (IntKind.wrap .i64 (x0+1)))
theorem B9(n:Nat)(v0:Bs)(v4:Int)(v5:Bs)(k:Nat):∀(v6:Int)(o:Sum (Unit) (Int×Int)),iy n v0 v4 v5 k v6=some o->(Sum.elim (fun s=>To 89 F0 w0 [(0,.str v0),(4,vi v4),(5,.str v5)] [] (.exit 2) Q) (fun s=>To 89 F0 w0 [(2,vi s.1),(3,vi s.2)] [] .ret Q)) o->WL Tryz.prog 89 F0 w0 [(0,.str v0),(4,vi v4),(5,.str v5),(6,vi v6)] [] (cI (cI (cB (cA (cB (cB (cB (cB (cB (cB (cF Tryz.f89))))))))))) Q:=by
 induction k with
 |zero=>intro v6 o h;cases h
 |succ k ih =>
  intro v6 o h hQ
  rw[iy] at h
  refine WL.round (Wp.seq (Wp.seq (rg [0,4,5,6,52] [] [(0,.str v0),(4,vi v4),(5,.str v5),(6,vi v6),(52,vb (mj v6 v5))] [] (To.ah (cn h (fun h=>?_) (fun h=>?_))))))
  ·refine Wp.skip (To.ah (Wp.seq (Wp.block (Wp.seq ?_))))
   obtain⟨hc5,h⟩:=ax h
   obtain⟨hc6,h⟩:=ax h
   obtain⟨x4,hx4,h⟩:=aS h
   refine r0 [0,4,5,6,64] [] [(0,.str v0),(4,vi v4),(5,.str v5),(6,vi v6),(64,vb (bif (decide ((bK v5 v6)<48)) then true else(decide ((bK v5 v6)>57))))] [] (ai.cons hc5 (ai.cons hc6 ai.nil)) (To.eq (K':=[(0,.str v0),(4,vi v4),(5,.str v5),(6,vi v6),(64,vb x4)]) (L':=[]) (by cases hx4;rfl) (by cases hx4;rfl) (To.ah (cn h (fun h=>?_) (fun h=>?_))))
   ·refine Wp.seq (rg [2,3] [] [(2,vi 0),(3,vi 3)] [] (To.ah (Wp.ret (To.aP (To.aA (To.aA ?_))))))
    cases h
    exact hQ
   ·refine Wp.skip (To.aR (To.ah (rg [0,4,5,6] [] [(0,.str v0),(4,vi v4),(5,.str v5),(tZ v6)] [] (kt [0,4,5,6] [] [(0,.str v0),(4,vi v4),(5,.str v5),(tZ v6)] [] (To.again ?_)))))
    exact ih (IntKind.wrap .i64 (v6+1)) _ h hQ
  ·refine Wp.exit (To.aK (To.aK (kt [0,4,5] [] [(0,.str v0),(4,vi v4),(5,.str v5)] [] ?_)))
   cases h
   exact hQ
def iG(n:Nat)(v0:Bs)(v4:Int):Nat->Bs->Option (Bs)
 |0,_=>none
 |k+1,v5=>if(decide ((List.length v5:Int)<3))=true then(if(decide (((List.length v5+List.length ([48]:Bs):Nat):Int)<=9223372036854775807))=true then(iG n v0 v4 k (v5++[48])) else none)
 else some v5
theorem BZ(n:Nat)(v0:Bs)(v4:Int)(k:Nat):∀(v5:Bs)(o:Bs),iG n v0 v4 k v5=some o->To 89 F0 w0 [(0,.str v0),(4,vi v4),(5,.str o)] [] (.exit 4) Q->WL Tryz.prog 89 F0 w0 [(0,.str v0),(4,vi v4),(5,.str v5)] [] (cI (cI (cA (cB (cB (cB (cB (cB (cB (cB (cF Tryz.f89))))))))))) Q:=by
 induction k with
 |zero=>intro v5 o h;cases h
 |succ k ih =>
  intro v5 o h hQ
  rw[iG] at h
  refine WL.round (Wp.seq (Wp.seq (rg [0,4,5,67] [] [(0,.str v0),(4,vi v4),(5,.str v5),(67,vb (decide ((List.length v5:Int)<3)))] [] (To.ah (cn h (fun h=>?_) (fun h=>?_))))))
  ·refine Wp.skip (To.ah (Wp.block ?_))
   obtain⟨hc5,h⟩:=ax h
   refine r0 [0,4,5] [] [(0,.str v0),(4,vi v4),(5,.str (v5++[48]))] [] (ai.cons hc5 ai.nil) (To.aR (To.again ?_))
   exact ih (v5++[48]) _ h hQ
  ·refine Wp.exit (To.aK (To.aK (kt [0,4,5] [] [(0,.str v0),(4,vi v4),(5,.str v5)] [] ?_)))
   cases h
   exact hQ
def qQ(n:Nat)(a0:Bs):Option (Int×Int) :=
 (jb n a0 n 0).bind fun o1 =>
 (pV n a0 o1 [] (decide (o1<(List.length a0:Int)))).bind fun o2 =>
 (Sum.elim (fun o2=>if(decide (0<=o1/\o1<=(List.length a0:Int)))=true then((fO n (List.take (Int.toNat o1) a0)).bind fun r3 =>
 if(!r3)=true then(some (0,3))
 else((iy n a0 o1 o2 n 0).bind fun o4 =>
 (Sum.elim (fun o4=>(iG n a0 o1 n o2).bind fun o5 =>
 if(decide (0<=o1/\o1<=(List.length a0:Int)))=true then((ik n (List.take (Int.toNat o1) a0)).bind fun r6 =>
 ((if((decide (r6>9007199254740))==false)=true then ik n o5 else some 0)).bind fun r7 =>
 aQ ((bif (decide (r6>9007199254740)) then true else(decide ((IntKind.wrap .i64 ((IntKind.wrap .i64 (r6*1000))+r7))>9007199254740992))):Bool) fun x8 =>
 if x8=true then(some (0,9))
 else((ik n o5).bind fun r9 =>
 some ((IntKind.wrap .i64 ((IntKind.wrap .i64 (r6*1000))+r9)),0))) else none) (fun o4=>some (o4.1,o4.2))) o4)) else none) (fun o2=>some (o2.1,o2.2))) o2
theorem GZ(n:Nat)(a0:Bs)(r:Int×Int)(h:qQ n a0=some r):aJ Tryz.prog 89 [.str a0] (.tup [vi r.1,vi r.2]):=by
 unfold qQ at h
 refine xo Tryz.f89 rfl fun F0 w0 _=>?_
 refine Wp.seq (rg [0] [] [(0,.str a0)] [] (To.ah (Wp.seq (rg [0,4] [] [(0,.str a0),(4,vi 0)] [] (To.ah (Wp.seq (Wp.block ?_)))))))
 obtain⟨o1,ho1,h⟩:=au h
 refine kw [0,4] [] [(0,.str a0),(4,vi 0)] [] (Wp.bE (BP n a0 n 0 o1 ho1 (To.aY (To.ah (Wp.seq (rg [0,4,5] [] [(0,.str a0),(4,vi o1),(5,.str [])] [] (To.ah (Wp.seq (Wp.seq (rg [0,4,5,23] [] [(0,.str a0),(4,vi o1),(5,.str []),(23,vb (decide (o1<(List.length a0:Int))))] [] ?_))))))))))
 refine To.ah ?_
 obtain⟨o2,ho2,h⟩:=au h
 refine kw [0,4,5,23] [] [(0,.str a0),(4,vi o1),(5,.str []),(23,vb (decide (o1<(List.length a0:Int))))] [] (Cc n a0 o1 [] (decide (o1<(List.length a0:Int))) o2 ho2 ?_)
 rcases o2 with o2|o2
 ·replace h:=cv h
  refine To.ah (Wp.seq (Wp.seq ?_))
  obtain⟨hc11,h⟩:=ax h
  obtain⟨r3,hr3,h⟩:=au h
  refine rr [] [(3,vb r3)] [] [0,4,5,48] [] [(0,.str a0),(4,vi o1),(5,.str o2),(48,vb (!r3))] [] [_,_] (ai.cons hc11 (ai.cons (c1 (jT n (List.take (Int.toNat o1) a0) _ hr3)) ai.nil)) (To.ah (cn h (fun h=>?_) (fun h=>?_)))
  ·refine Wp.seq (rg [2,3] [] [(2,vi 0),(3,vi 3)] [] (To.ah (Wp.ret (To.aA ?_))))
   cases h
   exact To.done hΓ (by kernel_rfl)
  ·refine Wp.skip (To.ah (Wp.seq (Wp.seq (rg [0,4,5,6] [] [(0,.str a0),(4,vi o1),(5,.str o2),(6,vi 0)] [] (To.ah (Wp.block ?_))))))
   obtain⟨o4,ho4,h⟩:=au h
   refine kw [0,4,5,6] [] [(0,.str a0),(4,vi o1),(5,.str o2),(6,vi 0)] [] (Wp.bE (B9 n a0 o1 o2 n 0 o4 ho4 ?_))
   rcases o4 with o4|o4
   ·replace h:=cv h
    refine To.aY (To.ah (Wp.seq (Wp.block ?_)))
    obtain⟨o5,ho5,h⟩:=au h
    refine kw [0,4,5] [] [(0,.str a0),(4,vi o1),(5,.str o2)] [] (Wp.bE (BZ n a0 o1 n o2 o5 ho5 (To.aY (To.ah (Wp.seq ?_)))))
    obtain⟨hc10,h⟩:=ax h
    obtain⟨r6,hr6,h⟩:=au h
    refine rr [] [(3,vi r6)] [] [5,7] [] [(5,.str o5),(7,vi r6)] [] [_,_] (ai.cons hc10 (ai.cons (c1 (nq n (List.take (Int.toNat o1) a0) _ hr6)) ai.nil)) (To.ah (Wp.seq (Wp.seq ?_)))
    obtain⟨r7,hr7,h⟩:=au h
    obtain⟨x8,hx8,h⟩:=aS h
    refine rr [] [(6,vi r7)] [] [5,7,83] [] [(5,.str o5),(7,vi r6),(83,vb (bif (decide (r6>9007199254740)) then true else(decide ((IntKind.wrap .i64 ((IntKind.wrap .i64 (r6*1000))+r7))>9007199254740992))))] [] [(((decide (r6>9007199254740))==false)=true->CX Tryz.prog 114 [.str o5] (vi r7))] (ai.cons (fun hg=>cx (nq n o5 _ (jB hg hr7))) ai.nil) (To.eq (K':=[(5,.str o5),(7,vi r6),(83,vb x8)]) (L':=[]) (by cases hx8;rfl) (by cases hx8;rfl) (To.ah (cn h (fun h=>?_) (fun h=>?_))))
    ·refine Wp.seq (rg [2,3] [] [(2,vi 0),(3,vi 9)] [] (To.ah (Wp.ret (To.aA ?_))))
     cases h
     exact To.done hΓ (by kernel_rfl)
    ·refine Wp.skip (To.ah (Wp.seq ?_))
     obtain⟨r9,hr9,h⟩:=au h
     refine rc [] 3 [2,3] [] [(2,vi (IntKind.wrap .i64 ((IntKind.wrap .i64 (r6*1000))+r9))),(3,vi 0)] [] (nq n o5 _ hr9) (To.ah (Wp.ret ?_))
     cases h
     exact To.done hΓ (by kernel_rfl)
   ·replace h:=cy h
    refine To.aP (To.aA ?_)
    cases h
    exact To.done hΓ (by kernel_rfl)
 ·replace h:=cy h
  refine To.aA ?_
  cases h
  exact To.done hΓ (by kernel_rfl)
def dG(a0:Bs):Int :=
 if(bif (a0==[]) then true else(a0==[98]))=true then 1
 else(if(bif (a0==[107]) then true else(a0==[107,98]))=true then 1024
 else(if(bif (a0==[109]) then true else(a0==[109,98]))=true then 1048576
 else(if(bif (a0==[103]) then true else(a0==[103,98]))=true then 1073741824
 else 0)))
theorem Jp(a0:Bs)(r:Int)(h:dG a0=r):aJ Tryz.prog 115 [.str a0] (vi r):=by
 unfold dG at h
 refine xo Tryz.f115 rfl fun F0 w0 _=>?_
 refine Wp.seq (rg [0] [] [(0,.str a0)] [] (To.ah (Wp.seq (Wp.seq (rg [0,8] [] [(0,.str a0),(8,vb (bif (a0==[]) then true else(a0==[98])))] [] (To.ah (cn h (fun h=>?_) (fun h=>?_))))))))
 ·refine Wp.seq (rg [2] [] [(2,vi 1)] [] (To.ah (Wp.ret (To.aA ?_))))
  cases h
  exact To.done hΓ (by kernel_rfl)
 ·refine Wp.skip (To.ah (Wp.seq (Wp.seq (rg [0,14] [] [(0,.str a0),(14,vb (bif (a0==[107]) then true else(a0==[107,98])))] [] (To.ah (cn h (fun h=>?_) (fun h=>?_)))))))
  ·refine Wp.seq (rg [2] [] [(2,vi 1024)] [] (To.ah (Wp.ret (To.aA ?_))))
   cases h
   exact To.done hΓ (by kernel_rfl)
  ·refine Wp.skip (To.ah (Wp.seq (Wp.seq (rg [0,20] [] [(0,.str a0),(20,vb (bif (a0==[109]) then true else(a0==[109,98])))] [] (To.ah (cn h (fun h=>?_) (fun h=>?_)))))))
   ·refine Wp.seq (rg [2] [] [(2,vi 1048576)] [] (To.ah (Wp.ret (To.aA ?_))))
    cases h
    exact To.done hΓ (by kernel_rfl)
   ·refine Wp.skip (To.ah (Wp.seq (Wp.seq (rg [26] [] [(26,vb (bif (a0==[103]) then true else(a0==[103,98])))] [] (To.ah (cn h (fun h=>?_) (fun h=>?_)))))))
    ·refine Wp.seq (rg [2] [] [(2,vi 1073741824)] [] (To.ah (Wp.ret (To.aA ?_))))
     cases h
     exact To.done hΓ (by kernel_rfl)
    ·refine Wp.skip (To.ah (Wp.seq (rg [2] [] [(2,vi 0)] [] (To.ah (Wp.ret ?_)))))
     cases h
     exact To.done hΓ (by kernel_rfl)
def i6(n:Nat)(v0:Bs):Nat->Int->Option (Int)
 |0,_=>none
 |k+1,v4=>if((!((decide (v4<(List.length v0:Int)))==true)||decide (0<=v4/\v4<(List.length v0:Int))))=true then(if((!((bif (decide (v4<(List.length v0:Int))) then(decide ((((v0)[Int.toNat v4]?.getD 0).toNat:Int)>=48)) else false)==true)||decide (0<=v4/\v4<(List.length v0:Int))))=true then(aQ ((bif (bif (decide (v4<(List.length v0:Int))) then(decide ((((v0)[Int.toNat v4]?.getD 0).toNat:Int)>=48)) else false) then(decide ((((v0)[Int.toNat v4]?.getD 0).toNat:Int)<=57)) else false):Bool) fun x1 =>
 if x1=true then(i6 n v0 k (IntKind.wrap .i64 (v4+1)))
 else some v4) else none) else none
abbrev Uw(x0:Int)(x1:Bs):=(bif (mj x0 x1) then(decide ((bK x1 x0)>=48)) else false)
theorem BR(n:Nat)(v0:Bs)(k:Nat):∀(v4:Int)(o:Int),i6 n v0 k v4=some o->To 49 F0 w0 [(0,.str v0),(4,vi o)] [] (.exit 0) Q->WL Tryz.prog 49 F0 w0 [(0,.str v0),(4,vi v4)] [] (cI (cI (cA (cB (cB (cF Tryz.f90)))))) Q:=by
 induction k with
 |zero=>intro v4 o h;cases h
 |succ k ih =>
  intro v4 o h hQ
  rw[i6] at h
  refine WL.round (Wp.seq (Wp.seq ?_))
  obtain⟨hc2,h⟩:=ax h
  obtain⟨hc3,h⟩:=ax h
  obtain⟨x1,hx1,h⟩:=aS h
  refine r0 [0,4,22] [] [(0,.str v0),(4,vi v4),(22,vb (bif (Uw v4 v0) then(decide ((bK v0 v4)<=57)) else false))] [] (ai.cons hc2 (ai.cons hc3 ai.nil)) (To.eq (K':=[(0,.str v0),(4,vi v4),(22,vb x1)]) (L':=[]) (by cases hx1;rfl) (by cases hx1;rfl) (To.ah (cn h (fun h=>?_) (fun h=>?_))))
  ·refine Wp.skip (To.ah (Wp.block (rg [0,4] [] [(0,.str v0),(lL v4)] [] (To.aR (To.again ?_)))))
   exact ih (IntKind.wrap .i64 (v4+1)) _ h hQ
  ·refine Wp.exit (To.aK (To.aK (kt [0,4] [] [(0,.str v0),(4,vi v4)] [] ?_)))
   cases h
   exact hQ
def qL(n:Nat)(a0:Bs):Option (Int×Int) :=
 (i6 n a0 n 0).bind fun o1 =>
 if(decide (0<=o1/\o1<=(List.length a0:Int)))=true then(if((!(((dG (List.drop (Int.toNat o1) a0))==0)==false)||decide (0<=o1/\o1<=(List.length a0:Int))))=true then(((if(((dG (List.drop (Int.toNat o1) a0))==0)==false)=true then fO n (List.take (Int.toNat o1) a0) else some false)).bind fun r2 =>
 if(bif ((dG (List.drop (Int.toNat o1) a0))==0) then true else(!r2))=true then(some (0,3))
 else(if(decide (0<=o1/\o1<=(List.length a0:Int)))=true then((ik n (List.take (Int.toNat o1) a0)).bind fun r3 =>
 if(((dG (List.drop (Int.toNat o1) a0)) != 0))=true then(if(decide (r3>(IntKind.wrap .i64 (Int.tdiv 1125899906842624 (dG (List.drop (Int.toNat o1) a0))))))=true then(some (0,9))
 else(some ((IntKind.wrap .i64 (r3*(dG (List.drop (Int.toNat o1) a0)))),0))) else none) else none)) else none) else none
theorem GV(n:Nat)(a0:Bs)(r:Int×Int)(h:qL n a0=some r):aJ Tryz.prog 90 [.str a0] (.tup [vi r.1,vi r.2]):=by
 unfold qL at h
 refine xo Tryz.f90 rfl fun F0 w0 _=>?_
 refine Wp.seq (rg [0] [] [(0,.str a0)] [] (To.ah (Wp.seq (rg [0,4] [] [(0,.str a0),(4,vi 0)] [] (To.ah (Wp.seq (Wp.block ?_)))))))
 obtain⟨o1,ho1,h⟩:=au h
 refine kw [0,4] [] [(0,.str a0),(4,vi 0)] [] (Wp.bE (BR n a0 n 0 o1 ho1 (To.aY (To.ah (Wp.seq ?_)))))
 obtain⟨hc7,h⟩:=ax h
 refine rr [] [(3,vi (dG (List.drop (Int.toNat o1) a0)))] [] [0,4,5] [] [(0,.str a0),(4,vi o1),(5,vi (dG (List.drop (Int.toNat o1) a0)))] [] [_,_] (ai.cons hc7 (ai.cons (c1 (Jp (List.drop (Int.toNat o1) a0) _ rfl)) ai.nil)) (To.ah (Wp.seq (Wp.seq ?_)))
 obtain⟨hc6,h⟩:=ax h
 obtain⟨r2,hr2,h⟩:=au h
 refine rr [] [(6,vb r2)] [] [0,4,5,37] [] [(0,.str a0),(4,vi o1),(5,vi (dG (List.drop (Int.toNat o1) a0))),(37,vb (bif ((dG (List.drop (Int.toNat o1) a0))==0) then true else(!r2)))] [] [_,((((dG (List.drop (Int.toNat o1) a0))==0)==false)=true->CX Tryz.prog 113 [.str (List.take (Int.toNat o1) a0)] (vb r2))] (ai.cons hc6 (ai.cons (fun hg=>cx (jT n (List.take (Int.toNat o1) a0) _ (jB hg hr2))) ai.nil)) (To.ah (cn h (fun h=>?_) (fun h=>?_)))
 ·refine Wp.seq (rg [2,3] [] [(2,vi 0),(3,vi 3)] [] (To.ah (Wp.ret (To.aA ?_))))
  cases h
  exact To.done hΓ (by kernel_rfl)
 ·refine Wp.skip (To.ah (Wp.seq ?_))
  obtain⟨hc5,h⟩:=ax h
  obtain⟨r3,hr3,h⟩:=au h
  refine rr [] [(3,vi r3)] [] [5,6] [] [(5,vi (dG (List.drop (Int.toNat o1) a0))),(6,vi r3)] [] [_,_] (ai.cons hc5 (ai.cons (c1 (nq n (List.take (Int.toNat o1) a0) _ hr3)) ai.nil)) (To.ah (Wp.seq (Wp.seq ?_)))
  obtain⟨hc4,h⟩:=ax h
  refine r0 [5,6,45] [] [(5,vi (dG (List.drop (Int.toNat o1) a0))),(6,vi r3),(45,vb (decide (r3>(IntKind.wrap .i64 (Int.tdiv 1125899906842624 (dG (List.drop (Int.toNat o1) a0)))))))] [] (ai.cons hc4 ai.nil) (To.ah (cn h (fun h=>?_) (fun h=>?_)))
  ·refine Wp.seq (rg [2,3] [] [(2,vi 0),(3,vi 9)] [] (To.ah (Wp.ret (To.aA ?_))))
   cases h
   exact To.done hΓ (by kernel_rfl)
  ·refine Wp.skip (To.ah (Wp.seq (rg [2,3] [] [(2,vi (IntKind.wrap .i64 (r3*(dG (List.drop (Int.toNat o1) a0))))),(3,vi 0)] [] (To.ah (Wp.ret ?_)))))
   cases h
   exact To.done hΓ (by kernel_rfl)
def tf(n:Nat)(a0:Int):Option (Int) :=
 if(bif (decide (a0<0)) then true else(decide (a0>1125899906842624)))=true then some 0
 else(if((!((a0==0)==false)||(1024 != 0)))=true then(if(bif (a0==0) then true else((Int.tmod a0 1024) != 0))=true then some 1
 else(if((1048576 != 0))=true then(if((Int.tmod a0 1048576) != 0)=true then some 1024
 else(if((1073741824 != 0))=true then(if((Int.tmod a0 1073741824) != 0)=true then some 1048576
 else some 1073741824) else none)) else none)) else none)
theorem Jy(n:Nat)(a0:Int)(r:Int)(h:tf n a0=some r):aJ Tryz.prog 116 [vi a0] (vi r):=by
 unfold tf at h
 refine xo Tryz.f116 rfl fun F0 w0 _=>?_
 refine Wp.seq (rg [0] [] [(0,vi a0)] [] (To.ah (Wp.seq (Wp.seq (rg [0,8] [] [(0,vi a0),(8,vb (bif (decide (a0<0)) then true else(decide (a0>1125899906842624))))] [] (To.ah (cn h (fun h=>?_) (fun h=>?_))))))))
 ·refine Wp.seq (rg [2] [] [(2,vi 0)] [] (To.ah (Wp.ret (To.aA ?_))))
  cases h
  exact To.done hΓ (by kernel_rfl)
 ·refine Wp.skip (To.ah (Wp.seq (Wp.seq ?_)))
  obtain⟨hc3,h⟩:=ax h
  refine r0 [0,15] [] [(0,vi a0),(15,vb (bif (a0==0) then true else((Int.tmod a0 1024) != 0)))] [] (ai.cons hc3 ai.nil) (To.ah (cn h (fun h=>?_) (fun h=>?_)))
  ·refine Wp.seq (rg [2] [] [(2,vi 1)] [] (To.ah (Wp.ret (To.aA ?_))))
   cases h
   exact To.done hΓ (by kernel_rfl)
  ·refine Wp.skip (To.ah (Wp.seq (Wp.seq ?_)))
   obtain⟨hc2,h⟩:=ax h
   refine r0 [0,18] [] [(0,vi a0),(18,vb ((Int.tmod a0 1048576) != 0))] [] (ai.cons hc2 ai.nil) (To.ah (cn h (fun h=>?_) (fun h=>?_)))
   ·refine Wp.seq (rg [2] [] [(2,vi 1024)] [] (To.ah (Wp.ret (To.aA ?_))))
    cases h
    exact To.done hΓ (by kernel_rfl)
   ·refine Wp.skip (To.ah (Wp.seq (Wp.seq ?_)))
    obtain⟨hc1,h⟩:=ax h
    refine r0 [21] [] [(21,vb ((Int.tmod a0 1073741824) != 0))] [] (ai.cons hc1 ai.nil) (To.ah (cn h (fun h=>?_) (fun h=>?_)))
    ·refine Wp.seq (rg [2] [] [(2,vi 1048576)] [] (To.ah (Wp.ret (To.aA ?_))))
     cases h
     exact To.done hΓ (by kernel_rfl)
    ·refine Wp.skip (To.ah (Wp.seq (rg [2] [] [(2,vi 1073741824)] [] (To.ah (Wp.ret ?_)))))
     cases h
     exact To.done hΓ (by kernel_rfl)
def jA(n:Nat):Nat->Int->Bs->Option (Int×Bs)
 |0,_,_=>none
 |k+1,v0,v3=>if(decide (v0>=10))=true then(if((10 != 0))=true then(if(decide (0<=(IntKind.wrap .u8 ((IntKind.wrap .u64 (48+(Int.tmod v0 10)))))/\(IntKind.wrap .u8 ((IntKind.wrap .u64 (48+(Int.tmod v0 10)))))<256))=true then(if(decide (((List.length ([(UInt8.ofNat (Int.toNat (IntKind.wrap .u8 ((IntKind.wrap .u64 (48+(Int.tmod v0 10)))))))]:Bs)+List.length v3:Nat):Int)<=9223372036854775807))=true then(if((10 != 0))=true then(jA n k (IntKind.wrap .u64 (Int.tdiv v0 10)) (([(UInt8.ofNat (Int.toNat (IntKind.wrap .u8 ((IntKind.wrap .u64 (48+(Int.tmod v0 10)))))))]:Bs)++v3)) else none) else none) else none) else none)
 else(some (v0,v3))
abbrev Ih(l:List (UInt8)):D:=.recs (α:=UInt8) 0 e8 l
abbrev yE(x0:Int):=(UInt8.ofNat (Int.toNat (IntKind.wrap .u8 ((IntKind.wrap .u64 (48+(Int.tmod x0 10)))))))
theorem zR(n:Nat)(k:Nat):∀(v0:Int)(v3:Bs)(o:Int×Bs),jA n k v0 v3=some o->To 23 F0 w0 [(0,.val (.int .u64 o.1)),(3,.str o.2)] [] (.exit 0) Q->WL Tryz.prog 23 F0 w0 [(0,.val (.int .u64 v0)),(3,.str v3)] [] (cI (cI (cA (cB (cB (cF Tryz.f127)))))) Q:=by
 induction k with
 |zero=>intro v0 v3 o h;cases h
 |succ k ih =>
  intro v0 v3 o h hQ
  rw[jA] at h
  refine WL.round (Wp.seq (Wp.seq (rg [0,3,5] [] [(0,.val (.int .u64 v0)),(3,.str v3),(5,vb (decide (v0>=10)))] [] (To.ah (cn h (fun h=>?_) (fun h=>?_))))))
  ·refine Wp.skip (To.ah (Wp.block (Wp.seq ?_)))
   obtain⟨hc3,h⟩:=ax h
   obtain⟨u1,h⟩:=ax h
   obtain⟨hc4,h⟩:=ax h
   refine rr [] [(4,Ih [(yE v0)]),(5,.str [(yE v0)])] [] [0,3] [] [(0,.val (.int .u64 v0)),(3,.str (([(yE v0)]:Bs)++v3))] [] [_,(ck 1 [.val (.int .u8 (IntKind.wrap .u8 ((IntKind.wrap .u64 (48+(Int.tmod v0 10))))))] 1 (Ih [(yE v0)])/\aM (Ih [(yE v0)])),(true=true->GI (List.flatMap e8 ([(yE v0)]:List (UInt8))) (.str [(yE v0)])),_] (ai.cons hc3 (ai.cons (du (wq.cells (ns:=[(IntKind.wrap .u8 ((IntKind.wrap .u64 (48+(Int.tmod v0 10)))))]) (.cons (RQ u1) .nil)) rfl rfl (Sl _)) (ai.cons (fun _=>Sr (N6 _)) (ai.cons hc4 ai.nil)))) (To.ah ?_)
   obtain⟨hc2,h⟩:=ax h
   refine r0 [0,3] [] [(0,.val (.int .u64 (IntKind.wrap .u64 (Int.tdiv v0 10)))),(3,.str (([(yE v0)]:Bs)++v3))] [] (ai.cons hc2 ai.nil) (To.aR (To.again ?_))
   exact ih (IntKind.wrap .u64 (Int.tdiv v0 10)) (([(yE v0)]:Bs)++v3) _ h hQ
  ·refine Wp.exit (To.aK (To.aK (kt [0,3] [] [(0,.val (.int .u64 v0)),(3,.str v3)] [] ?_)))
   cases h
   exact hQ
def pH(n:Nat)(a0:Int):Option (Bs) :=
 (jA n n a0 []).bind fun o1 =>
 if(decide (0<=(IntKind.wrap .u8 ((IntKind.wrap .u64 (48+o1.1))))/\(IntKind.wrap .u8 ((IntKind.wrap .u64 (48+o1.1))))<256))=true then(if(decide (((List.length ([(UInt8.ofNat (Int.toNat (IntKind.wrap .u8 ((IntKind.wrap .u64 (48+o1.1))))))]:Bs)+List.length o1.2:Nat):Int)<=9223372036854775807))=true then(some (([(UInt8.ofNat (Int.toNat (IntKind.wrap .u8 ((IntKind.wrap .u64 (48+o1.1))))))]:Bs)++o1.2)) else none) else none
theorem xg(n:Nat)(a0:Int)(r:Bs)(h:pH n a0=some r):aJ Tryz.prog 127 [.val (.int .u64 a0)] (.str r):=by
 unfold pH at h
 refine xo Tryz.f127 rfl fun F0 w0 _=>?_
 refine Wp.seq (rg [0] [] [(0,.val (.int .u64 a0))] [] (To.ah (Wp.seq (rg [0,3] [] [(0,.val (.int .u64 a0)),(3,.str [])] [] (To.ah (Wp.seq (Wp.block ?_)))))))
 obtain⟨o1,ho1,h⟩:=au h
 refine kw [0,3] [] [(0,.val (.int .u64 a0)),(3,.str [])] [] (Wp.bE (zR n n a0 [] o1 ho1 (To.aY (To.ah (Wp.seq ?_)))))
 obtain⟨u2,h⟩:=ax h
 obtain⟨hc3,h⟩:=ax h
 refine rr [] [(3,Ih [(UInt8.ofNat (Int.toNat (IntKind.wrap .u8 ((IntKind.wrap .u64 (48+o1.1))))))]),(4,.str [(UInt8.ofNat (Int.toNat (IntKind.wrap .u8 ((IntKind.wrap .u64 (48+o1.1))))))])] [] [2] [] [(2,.str (([(UInt8.ofNat (Int.toNat (IntKind.wrap .u8 ((IntKind.wrap .u64 (48+o1.1))))))]:Bs)++o1.2))] [] [(ck 1 [.val (.int .u8 (IntKind.wrap .u8 ((IntKind.wrap .u64 (48+o1.1)))))] 1 (Ih [(UInt8.ofNat (Int.toNat (IntKind.wrap .u8 ((IntKind.wrap .u64 (48+o1.1))))))])/\aM (Ih [(UInt8.ofNat (Int.toNat (IntKind.wrap .u8 ((IntKind.wrap .u64 (48+o1.1))))))])),(true=true->GI (List.flatMap e8 ([(UInt8.ofNat (Int.toNat (IntKind.wrap .u8 ((IntKind.wrap .u64 (48+o1.1))))))]:List (UInt8))) (.str [(UInt8.ofNat (Int.toNat (IntKind.wrap .u8 ((IntKind.wrap .u64 (48+o1.1))))))])),_] (ai.cons (du (wq.cells (ns:=[(IntKind.wrap .u8 ((IntKind.wrap .u64 (48+o1.1))))]) (.cons (RQ u2) .nil)) rfl rfl (Sl _)) (ai.cons (fun _=>Sr (N6 _)) (ai.cons hc3 ai.nil))) (To.ah (Wp.ret ?_))
 cases h
 exact To.done hΓ (by kernel_rfl)
def ft(n:Nat)(a0:Int):Option (Bs) :=
 if(decide (a0<0))=true then((pH n (IntKind.wrap .u64 (0-(IntKind.wrap .u64 (a0))))).bind fun r1 =>
 if(decide (((List.length ([45]:Bs)+List.length r1:Nat):Int)<=9223372036854775807))=true then(some (([45]:Bs)++r1)) else none)
 else((pH n (IntKind.wrap .u64 (a0))).bind fun r3 =>
 some r3)
theorem og(n:Nat)(a0:Int)(r:Bs)(h:ft n a0=some r):aJ Tryz.prog 106 [vi a0] (.str r):=by
 unfold ft at h
 refine xo Tryz.f106 rfl fun F0 w0 _=>?_
 refine Wp.seq (rg [0] [] [(0,vi a0)] [] (To.ah (Wp.seq (Wp.seq (rg [0,4] [] [(0,vi a0),(4,vb (decide (a0<0)))] [] (To.ah (cn h (fun h=>?_) (fun h=>?_))))))))
 ·refine Wp.seq ?_
  obtain⟨r1,hr1,h⟩:=au h
  obtain⟨hc2,h⟩:=ax h
  refine rr [] [(3,.str r1)] [] [2] [] [(2,.str (([45]:Bs)++r1))] [] [_,_] (ai.cons (c1 (xg n (IntKind.wrap .u64 (0-(IntKind.wrap .u64 (a0)))) _ hr1)) (ai.cons hc2 ai.nil)) (To.ah (Wp.ret (To.aA ?_)))
  cases h
  exact To.done hΓ (by kernel_rfl)
 ·refine Wp.skip (To.ah (Wp.seq ?_))
  obtain⟨r3,hr3,h⟩:=au h
  refine rc [] 2 [2] [] [(2,.str r3)] [] (xg n (IntKind.wrap .u64 (a0)) _ hr3) (To.ah (Wp.ret ?_))
  cases h
  exact To.done hΓ (by kernel_rfl)
def tM(n:Nat)(a0:Int):Option (Bs) :=
 (tf n a0).bind fun r1 =>
 if(r1==0)=true then(some [])
 else(if((r1 != 0))=true then((ft n (IntKind.wrap .i64 (Int.tdiv a0 r1))).bind fun r2 =>
 if(r1==1024)=true then(if(decide (((List.length r2+List.length ([107]:Bs):Nat):Int)<=9223372036854775807))=true then(some (r2++[107])) else none)
 else(if(r1==1048576)=true then(if(decide (((List.length r2+List.length ([109]:Bs):Nat):Int)<=9223372036854775807))=true then(some (r2++[109])) else none)
 else(if(r1==1073741824)=true then(if(decide (((List.length r2+List.length ([103]:Bs):Nat):Int)<=9223372036854775807))=true then(some (r2++[103])) else none)
 else some r2))) else none)
theorem JG(n:Nat)(a0:Int)(r:Bs)(h:tM n a0=some r):aJ Tryz.prog 92 [vi a0] (.str r):=by
 unfold tM at h
 refine xo Tryz.f92 rfl fun F0 w0 _=>?_
 refine Wp.seq (rg [0] [] [(0,vi a0)] [] (To.ah (Wp.seq ?_)))
 obtain⟨r1,hr1,h⟩:=au h
 refine rc [] 1 [0,3] [] [(0,vi a0),(3,vi r1)] [] (Jy n a0 _ hr1) (To.ah (Wp.seq (Wp.seq (rg [0,3,8] [] [(0,vi a0),(3,vi r1),(8,vb (r1==0))] [] (To.ah (cn h (fun h=>?_) (fun h=>?_)))))))
 ·refine Wp.seq (rg [2] [] [(2,.str [])] [] (To.ah (Wp.ret (To.aA ?_))))
  cases h
  exact To.done hΓ (by kernel_rfl)
 ·refine Wp.skip (To.ah (Wp.seq ?_))
  obtain⟨hc6,h⟩:=ax h
  obtain⟨r2,hr2,h⟩:=au h
  refine rr [] [(3,.str r2)] [] [3,4] [] [(3,vi r1),(4,.str r2)] [] [_,_] (ai.cons hc6 (ai.cons (c1 (og n (IntKind.wrap .i64 (Int.tdiv a0 r1)) _ hr2)) ai.nil)) (To.ah (Wp.seq (Wp.seq (rg [3,4,14] [] [(3,vi r1),(4,.str r2),(14,vb (r1==1024))] [] (To.ah (cn h (fun h=>?_) (fun h=>?_)))))))
  ·refine Wp.seq ?_
   obtain⟨hc3,h⟩:=ax h
   refine r0 [2] [] [(2,.str (r2++[107]))] [] (ai.cons hc3 ai.nil) (To.ah (Wp.ret (To.aA ?_)))
   cases h
   exact To.done hΓ (by kernel_rfl)
  ·refine Wp.skip (To.ah (Wp.seq (Wp.seq (rg [3,4,18] [] [(3,vi r1),(4,.str r2),(18,vb (r1==1048576))] [] (To.ah (cn h (fun h=>?_) (fun h=>?_)))))))
   ·refine Wp.seq ?_
    obtain⟨hc4,h⟩:=ax h
    refine r0 [2] [] [(2,.str (r2++[109]))] [] (ai.cons hc4 ai.nil) (To.ah (Wp.ret (To.aA ?_)))
    cases h
    exact To.done hΓ (by kernel_rfl)
   ·refine Wp.skip (To.ah (Wp.seq (Wp.seq (rg [4,22] [] [(4,.str r2),(22,vb (r1==1073741824))] [] (To.ah (cn h (fun h=>?_) (fun h=>?_)))))))
    ·refine Wp.seq ?_
     obtain⟨hc5,h⟩:=ax h
     refine r0 [2] [] [(2,.str (r2++[103]))] [] (ai.cons hc5 ai.nil) (To.ah (Wp.ret (To.aA ?_)))
     cases h
     exact To.done hΓ (by kernel_rfl)
    ·refine Wp.skip (To.ah (Wp.seq (rg [2] [] [(2,.str r2)] [] (To.ah (Wp.ret ?_)))))
     cases h
     exact To.done hΓ (by kernel_rfl)
def dA(a0:Bs):af :=
 (af.mk 1 a0 [] [])
theorem dM(a0:Bs)(r:af)(h:dA a0=r):aJ Tryz.prog 91 [.str a0] (.agg (qc6 r)):=by
 unfold dA at h
 refine xo Tryz.f91 rfl fun F0 w0 _=>?_
 refine Wp.seq (rg [0,2] [2] [(0,.str a0),(2,.own 2 0)] [(2,25,[vi 0,.str [],.val (.slice none 0 0),.val (.slice none 0 0)])] (To.ah (Wp.seq (rg [2] [2] [(2,.own 2 0)] [(2,25,[vi 1,.str a0,.val (.slice none 0 0),.val (.slice none 0 0)])] (To.ah (Wp.ret (To.weak (K':=[(2,.own 2 0)]) (L':=[(2,25,[vi 1,.str a0,ls [],tn4 []])]) (.cons (.refl _) .nil) (.cons (.cons (.refl _) (.cons (.refl _) (.cons (.zero _ _) (.cons (.bu _ _ _) .nil)))) .nil) ?_)))))))
 cases h
 exact To.done hΓ (by kernel_rfl)
def pw(n:Nat)(v1:Int)(v18:Bool)(b2:af)(b4:af):Option (Bool×af) :=
 if v18=true then((qN n b2.aC).bind fun r1 =>
 some (r1,b2))
 else(if(v1==1)=true then((qQ n b2.aC).bind fun r2 =>
 some ((bif (r2.2==0) then(decide (r2.1>0)) else false),b2))
 else(if(v1==2)=true then((qL n b2.aC).bind fun r3 =>
 (tM n r3.1).bind fun r4 =>
 aQ (dA r4) fun r5 =>
 some ((bif (r3.2==0) then(decide (r3.1>0)) else false),r5))
 else(if(v1==3)=true then((fL n b2.aC 8).bind fun r6 =>
 some ((r6.2==0),b2))
 else(some ((bif (decide ((List.length b2.aC:Int)>=1)) then(decide ((List.length b2.aC:Int)<=64)) else false),b2)))))
theorem Ft(n:Nat)(v1:Int)(v18:Bool)(b2:af)(b4:af)(o:Bool×af)(h:pw n v1 v18 b2 b4=some o)(hQ:To 77 F0 w0 [(2,.own 2 0),(4,.own 4 0),(6,vb o.1)] [(2,25,qc6 o.2),(4,25,qc6 b4)] .normal Q):Wp Tryz.prog 77 F0 w0 [(1,vi v1),(2,.own 2 0),(4,.own 4 0),(18,vb v18)] [(2,25,qc6 b2),(4,25,qc6 b4)] (cB (cA (cB (cB (cB (cF Tryz.f69)))))) Q:=by
 unfold pw at h
 refine cn h (fun h=>?_) (fun h=>?_)
 ·obtain⟨r1,hr1,h⟩:=au h
  refine rc [] 2 [2,4,6] [2,4] [(2,.own 2 0),(4,.own 4 0),(6,vb r1)] [(2,25,qc6 b2),(4,25,qc6 b4)] (Ii n b2.aC _ hr1) (kt [2,4,6] [2,4] [(2,.own 2 0),(4,.own 4 0),(6,vb r1)] [(2,25,qc6 b2),(4,25,qc6 b4)] ?_)
  cases h
  exact hQ
 ·refine Wp.seq (rg [1,2,4,23] [2,4] [(1,vi v1),(2,.own 2 0),(4,.own 4 0),(23,vb (v1==1))] [(2,25,qc6 b2),(4,25,qc6 b4)] (To.ah (cn h (fun h=>?_) (fun h=>?_))))
  ·refine Wp.seq ?_
   obtain⟨r2,hr2,h⟩:=au h
   refine rc [] 2 [2,4,7,8] [2,4] [(2,.own 2 0),(4,.own 4 0),(7,vi r2.1),(8,vi r2.2)] [(2,25,qc6 b2),(4,25,qc6 b4)] (GZ n b2.aC _ hr2) (To.ah (rg [2,4,6] [2,4] [(2,.own 2 0),(4,.own 4 0),(6,vb (bif (r2.2==0) then(decide (r2.1>0)) else false))] [(2,25,qc6 b2),(4,25,qc6 b4)] (kt [2,4,6] [2,4] [(2,.own 2 0),(4,.own 4 0),(6,vb (bif (r2.2==0) then(decide (r2.1>0)) else false))] [(2,25,qc6 b2),(4,25,qc6 b4)] ?_)))
   cases h
   exact hQ
  ·refine Wp.seq (rg [1,2,4,37] [2,4] [(1,vi v1),(2,.own 2 0),(4,.own 4 0),(37,vb (v1==2))] [(2,25,qc6 b2),(4,25,qc6 b4)] (To.ah (cn h (fun h=>?_) (fun h=>?_))))
   ·refine Wp.seq ?_
    obtain⟨r3,hr3,h⟩:=au h
    refine rc [] 2 [2,4,9,10] [2,4] [(2,.own 2 0),(4,.own 4 0),(9,vi r3.1),(10,vi r3.2)] [(2,25,qc6 b2),(4,25,qc6 b4)] (GV n b2.aC _ hr3) (To.ah (Wp.seq (rg [2,4,6,9] [2,4] [(2,.own 2 0),(4,.own 4 0),(6,vb (bif (r3.2==0) then(decide (r3.1>0)) else false)),(9,vi r3.1)] [(2,25,qc6 b2),(4,25,qc6 b4)] (To.ah ?_))))
    obtain⟨r4,hr4,h⟩:=au h
    obtain⟨r5,hr5,h⟩:=aS h
    refine rr [] [(1,.str r4),(2,.agg (qc6 r5))] [] [2,4,6] [2,4] [(2,.own 2 0),(4,.own 4 0),(6,vb (bif (r3.2==0) then(decide (r3.1>0)) else false))] [(2,25,qc6 r5),(4,25,qc6 b4)] [_,_] (ai.cons (c1 (JG n r3.1 _ hr4)) (ai.cons (c1 (dM r4 _ hr5)) ai.nil)) (kt [2,4,6] [2,4] [(2,.own 2 0),(4,.own 4 0),(6,vb (bif (r3.2==0) then(decide (r3.1>0)) else false))] [(2,25,qc6 r5),(4,25,qc6 b4)] ?_)
    cases h
    exact hQ
   ·refine Wp.seq (rg [2,4,54] [2,4] [(2,.own 2 0),(4,.own 4 0),(54,vb (v1==3))] [(2,25,qc6 b2),(4,25,qc6 b4)] (To.ah (cn h (fun h=>?_) (fun h=>?_))))
    ·refine Wp.seq ?_
     obtain⟨r6,hr6,h⟩:=au h
     refine rc [] 2 [2,4,12] [2,4] [(2,.own 2 0),(4,.own 4 0),(12,vi r6.2)] [(2,25,qc6 b2),(4,25,qc6 b4)] (kV n b2.aC 8 _ hr6) (To.ah (rg [2,4,6] [2,4] [(2,.own 2 0),(4,.own 4 0),(6,vb (r6.2==0))] [(2,25,qc6 b2),(4,25,qc6 b4)] (kt [2,4,6] [2,4] [(2,.own 2 0),(4,.own 4 0),(6,vb (r6.2==0))] [(2,25,qc6 b2),(4,25,qc6 b4)] ?_)))
     cases h
     exact hQ
    ·refine rg [2,4,6] [2,4] [(2,.own 2 0),(4,.own 4 0),(6,vb (bif (decide ((List.length b2.aC:Int)>=1)) then(decide ((List.length b2.aC:Int)<=64)) else false))] [(2,25,qc6 b2),(4,25,qc6 b4)] (kt [2,4,6] [2,4] [(2,.own 2 0),(4,.own 4 0),(6,vb (bif (decide ((List.length b2.aC:Int)>=1)) then(decide ((List.length b2.aC:Int)<=64)) else false))] [(2,25,qc6 b2),(4,25,qc6 b4)] ?_)
     cases h
     exact hQ
def u9(n:Nat)(a0:af)(a1:Int):Option (af×Bool) :=
 if(a0.av != 1)=true then(some ((af.mk 0 [] [] []),false))
 else((pw n a1 (a1==0) a0 (af.mk 0 [] [] [])).bind fun o1 =>
 if(!o1.1)=true then(some ((af.mk 0 [] [] []),false))
 else(some (o1.2,true)))
theorem J6(n:Nat)(a0:af)(a1:Int)(r:af×Bool)(h:u9 n a0 a1=some r):aJ Tryz.prog 69 [.agg (qc6 a0),vi a1] (.tup [.agg (qc6 r.1),vb r.2]):=by
 unfold u9 at h
 refine xo Tryz.f69 rfl fun F0 w0 _=>?_
 refine Wp.seq (rg [1,2,4] [2,4] [(1,vi a1),(2,.own 2 0),(4,.own 4 0)] [(2,25,qc6 a0),(4,25,[vi 0,.str [],.val (.slice none 0 0),.val (.slice none 0 0)])] (To.ah (Wp.seq (Wp.seq (rg [1,2,4,15] [2,4] [(1,vi a1),(2,.own 2 0),(4,.own 4 0),(15,vb (a0.av != 1))] [(2,25,qc6 a0),(4,25,[vi 0,.str [],.val (.slice none 0 0),.val (.slice none 0 0)])] (To.ah (cn h (fun h=>?_) (fun h=>?_))))))))
 ·refine Wp.seq (rg [4,5] [4] [(4,.own 4 0),(5,vb false)] [(4,25,[vi 0,.str [],.val (.slice none 0 0),.val (.slice none 0 0)])] (To.ah (Wp.ret (To.aA (To.weak (K':=[(4,.own 4 0),(5,vb false)]) (L':=[(4,25,[vi 0,.str [],ls [],tn4 []])]) (.cons (.refl _) (.cons (.refl _) .nil)) (.cons (.cons (.refl _) (.cons (.refl _) (.cons (.zero _ _) (.cons (.bu _ _ _) .nil)))) .nil) ?_)))))
  cases h
  exact To.done hΓ (by kernel_rfl)
 ·refine Wp.skip (To.ah (Wp.seq (rg [1,2,4] [2,4] [(1,vi a1),(2,.own 2 0),(4,.own 4 0)] [(2,25,qc6 a0),(4,25,[vi 0,.str [],.val (.slice none 0 0),.val (.slice none 0 0)])] (To.ah (Wp.seq (Wp.seq (rg [1,2,4,18] [2,4] [(1,vi a1),(2,.own 2 0),(4,.own 4 0),(18,vb (a1==0))] [(2,25,qc6 a0),(4,25,[vi 0,.str [],.val (.slice none 0 0),.val (.slice none 0 0)])] (To.ah ?_))))))))
  obtain⟨o1,ho1,h⟩:=au h
  refine kw [1,2,4,18] [2,4] [(1,vi a1),(2,.own 2 0),(4,.own 4 0),(18,vb (a1==0))] [(2,25,qc6 a0),(4,25,[vi 0,.str [],.val (.slice none 0 0),.val (.slice none 0 0)])] (Wp.weak (K':=[(1,vi a1),(2,.own 2 0),(4,.own 4 0),(18,vb (a1==0))]) (L':=[(2,25,qc6 a0),(4,25,[vi 0,.str [],ls [],tn4 []])]) (.cons (.refl _) (.cons (.refl _) (.cons (.refl _) (.cons (.refl _) .nil)))) (.cons (.cons (.refl _) (.cons (.refl _) (.cons (.refl _) (.cons (.refl _) .nil)))) (.cons (.cons (.refl _) (.cons (.refl _) (.cons (.zero _ _) (.cons (.bu _ _ _) .nil)))) .nil)) (Ft n a1 (a1==0) a0 zx3 o1 ho1 (To.ah (Wp.seq (Wp.seq (rg [2,4,74] [2,4] [(2,.own 2 0),(4,.own 4 0),(74,vb (!o1.1))] [(2,25,qc6 o1.2),(4,25,[vi 0,.str [],ls [],tn4 []])] (To.ah (cn h (fun h=>?_) (fun h=>?_)))))))))
  ·refine Wp.seq (rg [4,5] [4] [(4,.own 4 0),(5,vb false)] [(4,25,[vi 0,.str [],.val (.slice none 0 0),.val (.slice none 0 0)])] (To.ah (Wp.ret (To.aA (To.weak (K':=[(4,.own 4 0),(5,vb false)]) (L':=[(4,25,[vi 0,.str [],ls [],tn4 []])]) (.cons (.refl _) (.cons (.refl _) .nil)) (.cons (.cons (.refl _) (.cons (.refl _) (.cons (.zero _ _) (.cons (.bu _ _ _) .nil)))) .nil) ?_)))))
   cases h
   exact To.done hΓ (by kernel_rfl)
  ·refine Wp.skip (To.ah (Wp.seq (rg [4,5] [4] [(4,.own 4 0),(5,vb true)] [(4,25,qc6 o1.2)] (To.ah (Wp.ret ?_)))))
   cases h
   exact To.done hΓ (by kernel_rfl)
def bT(n:Nat)(b1:af):Nat->(Ls)->Int->Option (Sum ((Ls)) ((Ls)×Bool))
 |0,_,_=>none
 |k+1,v4,v5=>if(decide (v5<(List.length b1.aj:Int)))=true then(if(decide (0<=v5/\v5<(List.length b1.aj:Int)))=true then(if((((b1.aj)[Int.toNat v5]?.getD (af.mk 0 [] [] [])).av) != 1)=true then(some (.inr (v4,false)))
 else(if(decide (0<=v5/\v5<(List.length b1.aj:Int)))=true then(if(decide ((List.length v4+List.length ([((b1.aj)[Int.toNat v5]?.getD (af.mk 0 [] [] [])).aC]:Ls))*(16+1)<=limit))=true then(bT n b1 k (v4++([((b1.aj)[Int.toNat v5]?.getD (af.mk 0 [] [] [])).aC]:Ls)) (IntKind.wrap .i64 (v5+1))) else none) else none)) else none)
 else(some (.inl v4))
abbrev yC(x0:af)(x1:Int):=([(ex5 x0 x1).aC]:Ls)
theorem BU(n:Nat)(b1:af)(k:Nat):∀(v4:Ls)(v5:Int)(o:Sum ((Ls)) ((Ls)×Bool)),bT n b1 k v4 v5=some o->(Sum.elim (fun s=>To 42 F0 w0 [(4,.row 1004)] [(1004,9,[rc1 s])] (.exit 0) Q) (fun s=>To 42 F0 w0 [(2,.row 1002),(3,vb s.2)] [(1002,9,[rc1 s.1])] .ret Q)) o->WL Tryz.prog 42 F0 w0 [(1,.own 1 0),(4,.row 1004),(5,vi v5)] [(1,25,qc6 b1),(1004,9,[rc1 v4])] (cI (cI (cB (cA (cB (cB (cB (cF Tryz.f48)))))))) Q:=by
 induction k with
 |zero=>intro v4 v5 o h;cases h
 |succ k ih =>
  intro v4 v5 o h hQ
  rw[bT] at h
  refine WL.round (Wp.seq (Wp.seq (rg [1,4,5,21] [1,1004] [(1,.own 1 0),(4,.row 1004),(5,vi v5),(21,vb (ex8 v5 b1))] [(1,25,qc6 b1),(1004,9,[rc1 v4])] (To.ah (cn h (fun h=>?_) (fun h=>?_))))))
  ·refine Wp.skip (To.ah (Wp.seq (Wp.block (Wp.seq (Wp.seq ?_)))))
   obtain⟨hc3,h⟩:=ax h
   refine r0 [1,4,5,30] [1,1004] [(1,.own 1 0),(4,.row 1004),(5,vi v5),(30,vb (((ex5 b1 v5).av) != 1))] [(1,25,qc6 b1),(1004,9,[rc1 v4])] (ai.cons hc3 ai.nil) (To.ah (cn h (fun h=>?_) (fun h=>?_)))
   ·refine Wp.seq (rg [2,3] [1004] [(2,.row 1004),(3,vb false)] [(1004,9,[rc1 v4])] (To.ah (Wp.ret (To.aA (To.aP (To.aA (To.aA (nt [2,3] [1004] [(1004,1002)] [2,3] [1002] [(2,.row 1002),(3,vb false)] [(1002,9,[rc1 v4])] ?_))))))))
    cases h
    exact hQ
   ·refine Wp.skip (To.ah ?_)
    obtain⟨hc1,h⟩:=ax h
    obtain⟨hc2,h⟩:=ax h
    refine rr [] [(7,ls ([(ex5 b1 v5).aC])),(8,ls (v4++(yC b1 v5)))] [] [1,4,5] [1,40] [(1,.own 1 0),(4,.row 40),(5,vi v5)] [(1,25,qc6 b1),(40,9,[rc1 (v4++(yC b1 v5))])] [_,(ck 1 [.str ((ex5 b1 v5).aC)] 1 (ls ([(ex5 b1 v5).aC]))/\aM (ls ([(ex5 b1 v5).aC]))),_,(gY [] aW v4 (List.flatMap aW (yC b1 v5)) (List.length (yC b1 v5)) (ls (v4++(yC b1 v5)))/\aM (ls (v4++(yC b1 v5))))] (ai.cons hc1 (ai.cons (du (by kernel_rfl) rfl (by kernel_rfl) (aI _)) (ai.cons hc2 (ai.cons (iI rfl rfl (aI _)) ai.nil)))) (To.aR (To.ah (rg [1,4,5] [1,40] [(1,.own 1 0),(4,.row 40),(ex3 v5)] [(1,25,qc6 b1),(40,9,[rc1 (v4++(yC b1 v5))])] (nt [1,4,5] [1,40] [(40,1004)] [1,4,5] [1,1004] [(1,.own 1 0),(4,.row 1004),(ex3 v5)] [(1,25,qc6 b1),(1004,9,[rc1 (v4++(yC b1 v5))])] (To.again ?_)))))
    exact ih (v4++(yC b1 v5)) (IntKind.wrap .i64 (v5+1)) _ h hQ
  ·refine Wp.exit (To.aK (To.aK (kt [4] [1004] [(4,.row 1004)] [(1004,9,[rc1 v4])] ?_)))
   cases h
   exact hQ
def fM(n:Nat)(a0:af):Option ((Ls)×Bool) :=
 if(bif (a0.av != 2) then true else(decide ((List.length a0.aj:Int)>32)))=true then(some ([],false))
 else((bT n a0 n ([]:Ls) 0).bind fun o1 =>
 (Sum.elim (fun o1=>some (o1,true)) (fun o1=>some (o1.1,o1.2))) o1)
abbrev U5(x0:af):=(decide ((List.length x0.aj:Int)>32))
theorem mT(n:Nat)(a0:af)(r:(Ls)×Bool)(h:fM n a0=some r):aJ Tryz.prog 48 [.agg (qc6 a0)] (.tup [ls r.1,vb r.2]):=by
 unfold fM at h
 refine xo Tryz.f48 rfl fun F0 w0 _=>?_
 refine Wp.seq (rg [1] [1] [(1,.own 1 0)] [(1,25,qc6 a0)] (To.ah (Wp.seq (rr [] [(0,ls [])] [] [1,4] [1,6] [(1,.own 1 0),(4,.row 6)] [(1,25,qc6 a0),(6,9,[rc1 []])] [(ck 1 [] 0 (ls [])/\aM (ls []))] (ai.cons (du (by kernel_rfl) rfl (by kernel_rfl) (aI _)) ai.nil) (To.ah (Wp.seq (Wp.seq (rg [1,4,15] [1,6] [(1,.own 1 0),(4,.row 6),(15,vb (bif (a0.av != 2) then true else(U5 a0)))] [(1,25,qc6 a0),(6,9,[rc1 []])] (To.ah (cn h (fun h=>?_) (fun h=>?_)))))))))))
 ·refine Wp.seq (rg [2,3] [6] [(2,.row 6),(3,vb false)] [(6,9,[rc1 []])] (To.ah (Wp.ret (To.aA (To.pre (St.settle (ks:=[6]) (kk:=[2,3]) (kl:=[6]) (K':=[(2,.row 6),(3,vb false)]) (L':=[(6,9,[rc2 []])]) (by kernel_rfl)) (To.pre (St.xk [2] (K':=[(2,ls []),(3,vb false)]) (by kernel_rfl)) ?_))))))
  cases h
  exact To.done hΓ (by kernel_rfl)
 ·refine Wp.skip (To.ah (Wp.seq (Wp.seq (rg [1,4,5] [1,6] [(1,.own 1 0),(4,.row 6),(5,vi 0)] [(1,25,qc6 a0),(6,9,[rc1 []])] (To.ah (Wp.block ?_))))))
  obtain⟨o1,ho1,h⟩:=au h
  refine nw [1,4,5] [1,6] [(6,1004)] [1,4,5] [1,1004] [(1,.own 1 0),(4,.row 1004),(5,vi 0)] [(1,25,qc6 a0),(1004,9,[rc1 []])] (Wp.bE (BU n a0 n ([]:Ls) 0 o1 ho1 ?_))
  rcases o1 with o1|o1
  ·replace h:=cv h
   refine To.aY (To.ah (Wp.seq (rg [2,3] [1004] [(2,.row 1004),(3,vb true)] [(1004,9,[rc1 o1])] (To.ah (Wp.ret (To.pre (St.settle (ks:=[1004]) (kk:=[2,3]) (kl:=[1004]) (K':=[(2,.row 1004),(3,vb true)]) (L':=[(1004,9,[rc2 o1])]) (by kernel_rfl)) (To.pre (St.xk [2] (K':=[(2,ls o1),(3,vb true)]) (by kernel_rfl)) ?_)))))))
   cases h
   exact To.done hΓ (by kernel_rfl)
  ·replace h:=cy h
   refine To.aP (To.aA (kt [2,3] [1002] [(2,.row 1002),(3,vb o1.2)] [(1002,9,[rc1 o1.1])] (To.pre (St.settle (ks:=[1002]) (kk:=[2,3]) (kl:=[1002]) (K':=[(2,.row 1002),(3,vb o1.2)]) (L':=[(1002,9,[rc2 o1.1])]) (by kernel_rfl)) (To.pre (St.xk [2] (K':=[(2,ls o1.1),(3,vb o1.2)]) (by kernel_rfl)) ?_))))
   cases h
   exact To.done hΓ (by kernel_rfl)
def jq(a0:Int):Bool :=
 (bif (a0==32) then true else(a0==9))
theorem yb(a0:Int)(r:Bool)(h:jq a0=r):aJ Tryz.prog 117 [.val (.int .u8 a0)] (vb r):=by
 unfold jq at h
 refine xo Tryz.f117 rfl fun F0 w0 _=>?_
 refine Wp.seq (rg [0] [] [(0,.val (.int .u8 a0))] [] (To.ah (Wp.seq (rg [2] [] [(2,vb (bif (a0==32) then true else(a0==9)))] [] (To.ah (Wp.ret ?_))))))
 cases h
 exact To.done hΓ (by kernel_rfl)
def eE(n:Nat)(v0:Bs)(v1:Int):Nat->Int->Option (Sum (Unit) (Bs×Int))
 |0,_=>none
 |k+1,v7=>if(decide (v7<(List.length v0:Int)))=true then(if(decide (0<=v7/\v7<(List.length v0:Int)))=true then(if((((v0)[Int.toNat v7]?.getD 0).toNat:Int)==39)=true then(if(decide (0<=v7/\v7<=(List.length v0:Int)))=true then(if(decide (0<=(IntKind.wrap .i64 (v1+1))/\(IntKind.wrap .i64 (v1+1))<=v7))=true then(aQ ((List.take (Int.toNat v7-Int.toNat (IntKind.wrap .i64 (v1+1))) (List.drop (Int.toNat (IntKind.wrap .i64 (v1+1))) v0)):Bs) fun x4 =>
 some (.inr (x4,(IntKind.wrap .i64 (v7+1))))) else none) else none)
 else(eE n v0 v1 k (IntKind.wrap .i64 (v7+1)))) else none)
 else(some (.inl ()))
theorem Da(n:Nat)(v0:Bs)(v1:Int)(k:Nat):∀(v7:Int)(o:Sum (Unit) (Bs×Int)),eE n v0 v1 k v7=some o->(Sum.elim (fun s=>To 109 F0 w0 [] [] (.exit 0) Q) (fun s=>To 109 F0 w0 [(4,.str s.1),(5,vi s.2)] [] .ret Q)) o->WL Tryz.prog 109 F0 w0 [(0,.str v0),(1,vi v1),(7,vi v7)] [] (cI (cI (cB (cA (cT (cB (cA (cB (cB (cB (cF Tryz.f118))))))))))) Q:=by
 induction k with
 |zero=>intro v7 o h;cases h
 |succ k ih =>
  intro v7 o h hQ
  rw[eE] at h
  refine WL.round (Wp.seq (Wp.seq (rg [0,1,7,34] [] [(0,.str v0),(1,vi v1),(7,vi v7),(34,vb (mj v7 v0))] [] (To.ah (cn h (fun h=>?_) (fun h=>?_))))))
  ·refine Wp.skip (To.ah (Wp.seq (Wp.block (Wp.seq ?_))))
   obtain⟨hc7,h⟩:=ax h
   refine r0 [0,1,7,40] [] [(0,.str v0),(1,vi v1),(7,vi v7),(40,vb ((bK v0 v7)==39))] [] (ai.cons hc7 ai.nil) (To.ah (cn h (fun h=>?_) (fun h=>?_)))
   ·refine Wp.seq ?_
    obtain⟨hc5,h⟩:=ax h
    obtain⟨hc6,h⟩:=ax h
    obtain⟨x4,hx4,h⟩:=aS h
    refine r0 [4,5] [] [(4,.str (List.take (Int.toNat v7-Int.toNat (IntKind.wrap .i64 (v1+1))) (xK v1 v0))),(ex3 v7)] [] (ai.cons hc5 (ai.cons hc6 ai.nil)) (To.eq (K':=[(4,.str x4),(ex3 v7)]) (L':=[]) (by cases hx4;rfl) (by cases hx4;rfl) (To.ah (Wp.ret (To.aP (To.aA (To.aA (kt [4,5] [] [(4,.str x4),(ex3 v7)] [] ?_)))))))
    cases h
    exact hQ
   ·refine Wp.skip (To.aR (To.ah (rg [0,1,7] [] [(0,.str v0),(1,vi v1),(ex7 v7)] [] (kt [0,1,7] [] [(0,.str v0),(1,vi v1),(ex7 v7)] [] (To.again ?_)))))
    exact ih (IntKind.wrap .i64 (v7+1)) _ h hQ
  ·refine Wp.exit (To.aK (To.aK (kt [] [] [] [] ?_)))
   cases h
   exact hQ
def mP(n:Nat)(v0:Bs)(v1:Int)(v8:Bs)(v90:Bool):Option (Bs) :=
 if v90=true then(if(decide (0<=(IntKind.wrap .i64 (v1+1))/\(IntKind.wrap .i64 (v1+1))<=(List.length v0:Int)))=true then(if(decide (0<=v1/\v1<=(IntKind.wrap .i64 (v1+1))))=true then(if(decide (((List.length v8+List.length (List.take (Int.toNat (IntKind.wrap .i64 (v1+1))-Int.toNat v1) (List.drop (Int.toNat v1) v0)):Nat):Int)<=9223372036854775807))=true then(some (v8++(List.take (Int.toNat (IntKind.wrap .i64 (v1+1))-Int.toNat v1) (List.drop (Int.toNat v1) v0)))) else none) else none) else none)
 else some v8
abbrev Rw(x0:Int)(x1:Bs):=(List.take (Int.toNat (IntKind.wrap .i64 (x0+1))-Int.toNat x0) (List.drop (Int.toNat x0) x1))
theorem CU(n:Nat)(v0:Bs)(v1:Int)(v8:Bs)(v90:Bool)(o:Bs)(h:mP n v0 v1 v8 v90=some o)(hQ:To 109 F0 w0 [(0,.str v0),(1,vi v1),(8,.str o)] [] .normal Q):Wp Tryz.prog 109 F0 w0 [(0,.str v0),(1,vi v1),(8,.str v8),(90,vb v90)] [] (cB (cA (cB (cT (cB (cA (cB (cI (cB (cI (cI (cA (cB (cB (cB (cB (cB (cB (cB (cF Tryz.f118)))))))))))))))))))) Q:=by
 unfold mP at h
 refine cn h (fun h=>?_) (fun h=>?_)
 ·obtain⟨hc8,h⟩:=ax h
  obtain⟨hc9,h⟩:=ax h
  obtain⟨hc10,h⟩:=ax h
  refine r0 [0,1,8] [] [(0,.str v0),(1,vi v1),(8,.str (v8++(Rw v1 v0)))] [] (ai.cons hc8 (ai.cons hc9 (ai.cons hc10 ai.nil))) (kt [0,1,8] [] [(0,.str v0),(1,vi v1),(8,.str (v8++(Rw v1 v0)))] [] ?_)
  cases h
  exact hQ
 ·refine Wp.skip (kt [0,1,8] [] [(0,.str v0),(1,vi v1),(8,.str v8)] [] ?_)
  cases h
  exact hQ
def nh(n:Nat)(v0:Bs)(v1:Int)(v8:Bs)(v73:Bool):Option (Sum (Int×Bs) (Bs×Int)) :=
 if v73=true then(if((IntKind.wrap .i64 (v1+1))==(List.length v0:Int))=true then(some (.inr ([],(-1))))
 else(if(decide (0<=(IntKind.wrap .i64 (v1+1))/\(IntKind.wrap .i64 (v1+1))<(List.length v0:Int)))=true then(if((!(((((v0)[Int.toNat (IntKind.wrap .i64 (v1+1))]?.getD 0).toNat:Int) != 34)==true)||decide (0<=(IntKind.wrap .i64 (v1+1))/\(IntKind.wrap .i64 (v1+1))<(List.length v0:Int))))=true then(aQ ((bif ((((v0)[Int.toNat (IntKind.wrap .i64 (v1+1))]?.getD 0).toNat:Int) != 34) then((((v0)[Int.toNat (IntKind.wrap .i64 (v1+1))]?.getD 0).toNat:Int) != 92) else false):Bool) fun x7 =>
 (mP n v0 v1 v8 x7).bind fun o8 =>
 some (.inl ((IntKind.wrap .i64 (v1+1)),o8))) else none) else none))
 else(some (.inl (v1,v8)))
theorem Dc(n:Nat)(v0:Bs)(v1:Int)(v8:Bs)(v73:Bool)(o:Sum (Int×Bs) (Bs×Int))(h:nh n v0 v1 v8 v73=some o)(hQ:(Sum.elim (fun s=>To 109 F0 w0 [(0,.str v0),(1,vi s.1),(8,.str s.2)] [] .normal Q) (fun s=>To 109 F0 w0 [(4,.str s.1),(5,vi s.2)] [] .ret Q)) o):Wp Tryz.prog 109 F0 w0 [(0,.str v0),(1,vi v1),(8,.str v8),(73,vb v73)] [] (cB (cA (cB (cI (cB (cI (cI (cA (cB (cB (cB (cB (cB (cB (cB (cF Tryz.f118)))))))))))))))) Q:=by
 unfold nh at h
 refine cn h (fun h=>?_) (fun h=>?_)
 ·refine Wp.seq (Wp.seq (rg [0,1,8,78] [] [(0,.str v0),(1,vi v1),(8,.str v8),(78,vb ((IntKind.wrap .i64 (v1+1))==(List.length v0:Int)))] [] (To.ah (cn h (fun h=>?_) (fun h=>?_)))))
  ·refine Wp.seq (rg [4,5] [] [(4,.str []),(5,vi (-1))] [] (To.ah (Wp.ret (To.aA ?_))))
   cases h
   exact hQ
  ·refine Wp.skip (To.ah (Wp.seq (Wp.seq ?_)))
   obtain⟨hc9,h⟩:=ax h
   obtain⟨hc10,h⟩:=ax h
   obtain⟨x7,hx7,h⟩:=aS h
   refine r0 [0,1,8,90] [] [(0,.str v0),(1,vi v1),(8,.str v8),(90,vb (bif ((((v0)[Int.toNat (IntKind.wrap .i64 (v1+1))]?.getD 0).toNat:Int) != 34) then((((v0)[Int.toNat (IntKind.wrap .i64 (v1+1))]?.getD 0).toNat:Int) != 92) else false))] [] (ai.cons hc9 (ai.cons hc10 ai.nil)) (To.eq (K':=[(0,.str v0),(1,vi v1),(8,.str v8),(90,vb x7)]) (L':=[]) (by cases hx7;rfl) (by cases hx7;rfl) (To.ah ?_))
   obtain⟨o8,ho8,h⟩:=au h
   refine kw [0,1,8,90] [] [(0,.str v0),(1,vi v1),(8,.str v8),(90,vb x7)] [] (CU n v0 v1 v8 x7 o8 ho8 (To.ah (rg [0,1,8] [] [(0,.str v0),(1,vi (IntKind.wrap .i64 (v1+1))),(8,.str o8)] [] (kt [0,1,8] [] [(0,.str v0),(1,vi (IntKind.wrap .i64 (v1+1))),(8,.str o8)] [] ?_))))
   cases h
   exact hQ
 ·refine Wp.skip (kt [0,1,8] [] [(0,.str v0),(1,vi v1),(8,.str v8)] [] ?_)
  cases h
  exact hQ
def kX(n:Nat)(v0:Bs):Nat->Int->Bs->Option (Sum (Unit) (Bs×Int))
 |0,_,_=>none
 |k+1,v1,v8=>if(decide (v1<(List.length v0:Int)))=true then(if(decide (0<=v1/\v1<(List.length v0:Int)))=true then(if((((v0)[Int.toNat v1]?.getD 0).toNat:Int)==34)=true then(some (.inr (v8,(IntKind.wrap .i64 (v1+1)))))
 else(if(decide (0<=v1/\v1<(List.length v0:Int)))=true then((nh n v0 v1 v8 ((((v0)[Int.toNat v1]?.getD 0).toNat:Int)==92)).bind fun o7 =>
 (Sum.elim (fun o7=>if(decide (0<=(IntKind.wrap .i64 (o7.1+1))/\(IntKind.wrap .i64 (o7.1+1))<=(List.length v0:Int)))=true then(if(decide (0<=o7.1/\o7.1<=(IntKind.wrap .i64 (o7.1+1))))=true then(if(decide (((List.length o7.2+List.length (List.take (Int.toNat (IntKind.wrap .i64 (o7.1+1))-Int.toNat o7.1) (List.drop (Int.toNat o7.1) v0)):Nat):Int)<=9223372036854775807))=true then(kX n v0 k (IntKind.wrap .i64 (o7.1+1)) (o7.2++(List.take (Int.toNat (IntKind.wrap .i64 (o7.1+1))-Int.toNat o7.1) (List.drop (Int.toNat o7.1) v0)))) else none) else none) else none) (fun o7=>some (.inr (o7.1,o7.2)))) o7) else none)) else none)
 else(some (.inl ()))
theorem C5(n:Nat)(v0:Bs)(k:Nat):∀(v1:Int)(v8:Bs)(o:Sum (Unit) (Bs×Int)),kX n v0 k v1 v8=some o->(Sum.elim (fun s=>To 109 F0 w0 [] [] (.exit 2) Q) (fun s=>To 109 F0 w0 [(4,.str s.1),(5,vi s.2)] [] .ret Q)) o->WL Tryz.prog 109 F0 w0 [(0,.str v0),(1,vi v1),(8,.str v8)] [] (cI (cI (cA (cB (cB (cB (cB (cB (cB (cB (cF Tryz.f118))))))))))) Q:=by
 induction k with
 |zero=>intro v1 v8 o h;cases h
 |succ k ih =>
  intro v1 v8 o h hQ
  rw[kX] at h
  refine WL.round (Wp.seq (Wp.seq (rg [0,1,8,62] [] [(0,.str v0),(1,vi v1),(8,.str v8),(62,vb (mj v1 v0))] [] (To.ah (cn h (fun h=>?_) (fun h=>?_))))))
  ·refine Wp.skip (To.ah (Wp.block (Wp.seq (Wp.seq ?_))))
   obtain⟨hc12,h⟩:=ax h
   refine r0 [0,1,8,66] [] [(0,.str v0),(1,vi v1),(8,.str v8),(66,vb ((bK v0 v1)==34))] [] (ai.cons hc12 ai.nil) (To.ah (cn h (fun h=>?_) (fun h=>?_)))
   ·refine Wp.seq (rg [4,5] [] [(4,.str v8),(ex3 v1)] [] (To.ah (Wp.ret (To.aA (To.aP (To.aA ?_))))))
    cases h
    exact hQ
   ·refine Wp.skip (To.ah (Wp.seq (Wp.seq ?_)))
    obtain⟨hc11,h⟩:=ax h
    refine r0 [0,1,8,73] [] [(0,.str v0),(1,vi v1),(8,.str v8),(73,vb ((bK v0 v1)==92))] [] (ai.cons hc11 ai.nil) (To.ah ?_)
    obtain⟨o7,ho7,h⟩:=au h
    refine kw [0,1,8,73] [] [(0,.str v0),(1,vi v1),(8,.str v8),(73,vb ((bK v0 v1)==92))] [] (Dc n v0 v1 v8 ((bK v0 v1)==92) o7 ho7 ?_)
    rcases o7 with o7|o7
    ·replace h:=cv h
     refine To.ah (Wp.seq ?_)
     obtain⟨hc8,h⟩:=ax h
     obtain⟨hc9,h⟩:=ax h
     obtain⟨hc10,h⟩:=ax h
     refine r0 [0,1,8] [] [(0,.str v0),(1,vi o7.1),(8,.str (o7.2++(List.take (Int.toNat (IntKind.wrap .i64 (o7.1+1))-Int.toNat o7.1) (List.drop (Int.toNat o7.1) v0))))] [] (ai.cons hc8 (ai.cons hc9 (ai.cons hc10 ai.nil))) (To.ah (rg [0,1,8] [] [(0,.str v0),(1,vi (IntKind.wrap .i64 (o7.1+1))),(8,.str (o7.2++(List.take (Int.toNat (IntKind.wrap .i64 (o7.1+1))-Int.toNat o7.1) (List.drop (Int.toNat o7.1) v0))))] [] (To.aR (To.again ?_))))
     exact ih (IntKind.wrap .i64 (o7.1+1)) (o7.2++(List.take (Int.toNat (IntKind.wrap .i64 (o7.1+1))-Int.toNat o7.1) (List.drop (Int.toNat o7.1) v0))) _ h hQ
    ·replace h:=cy h
     refine To.aA (To.aP (To.aA (kt [4,5] [] [(4,.str o7.1),(5,vi o7.2)] [] ?_)))
     cases h
     exact hQ
  ·refine Wp.exit (To.aK (To.aK (kt [] [] [] [] ?_)))
   cases h
   exact hQ
def oz(n:Nat)(a0:Bs)(a1:Int):Option (Bs×Int) :=
 if(decide (0<=a1/\a1<(List.length a0:Int)))=true then(if((((a0)[Int.toNat a1]?.getD 0).toNat:Int)==92)=true then(if((IntKind.wrap .i64 (a1+1))==(List.length a0:Int))=true then(some ([],(-1)))
 else(if(decide (0<=(IntKind.wrap .i64 (a1+2))/\(IntKind.wrap .i64 (a1+2))<=(List.length a0:Int)))=true then(if(decide (0<=(IntKind.wrap .i64 (a1+1))/\(IntKind.wrap .i64 (a1+1))<=(IntKind.wrap .i64 (a1+2))))=true then(aQ ((List.take (Int.toNat (IntKind.wrap .i64 (a1+2))-Int.toNat (IntKind.wrap .i64 (a1+1))) (List.drop (Int.toNat (IntKind.wrap .i64 (a1+1))) a0)):Bs) fun x1 =>
 some (x1,(IntKind.wrap .i64 (a1+2)))) else none) else none))
 else(if((((a0)[Int.toNat a1]?.getD 0).toNat:Int)==39)=true then((eE n a0 a1 n (IntKind.wrap .i64 (a1+1))).bind fun o4 =>
 (Sum.elim (fun o4=>some ([],(-1))) (fun o4=>some (o4.1,o4.2))) o4)
 else(if((((a0)[Int.toNat a1]?.getD 0).toNat:Int) != 34)=true then(if(decide (0<=(IntKind.wrap .i64 (a1+1))/\(IntKind.wrap .i64 (a1+1))<=(List.length a0:Int)))=true then(if(decide (0<=a1/\a1<=(IntKind.wrap .i64 (a1+1))))=true then(some ((List.take (Int.toNat (IntKind.wrap .i64 (a1+1))-Int.toNat a1) (List.drop (Int.toNat a1) a0)),(IntKind.wrap .i64 (a1+1)))) else none) else none)
 else((kX n a0 n (IntKind.wrap .i64 (a1+1)) []).bind fun o7 =>
 (Sum.elim (fun o7=>some ([],(-1))) (fun o7=>some (o7.1,o7.2))) o7)))) else none
theorem G7(n:Nat)(a0:Bs)(a1:Int)(r:Bs×Int)(h:oz n a0 a1=some r):aJ Tryz.prog 118 [.str a0,vi a1] (.tup [.str r.1,vi r.2]):=by
 unfold oz at h
 refine xo Tryz.f118 rfl fun F0 w0 _=>?_
 refine Wp.seq (rg [0,1] [] [(0,.str a0),(1,vi a1)] [] (To.ah (Wp.seq ?_)))
 obtain⟨hc8,h⟩:=ax h
 refine r0 [0,1,6] [] [(0,.str a0),(1,vi a1),(6,.val (.int .u8 (bK a0 a1)))] [] (ai.cons hc8 ai.nil) (To.ah (Wp.seq (Wp.seq (rg [0,1,6,13] [] [(0,.str a0),(1,vi a1),(6,.val (.int .u8 (bK a0 a1))),(13,vb ((bK a0 a1)==92))] [] (To.ah (cn h (fun h=>?_) (fun h=>?_)))))))
 ·refine Wp.seq (Wp.seq (rg [0,1,18] [] [(0,.str a0),(1,vi a1),(18,vb ((IntKind.wrap .i64 (a1+1))==(List.length a0:Int)))] [] (To.ah (cn h (fun h=>?_) (fun h=>?_)))))
  ·refine Wp.seq (rg [4,5] [] [(4,.str []),(5,vi (-1))] [] (To.ah (Wp.ret (To.aA (To.aA ?_)))))
   cases h
   exact To.done hΓ (by kernel_rfl)
  ·refine Wp.skip (To.ah (Wp.seq ?_))
   obtain⟨hc2,h⟩:=ax h
   obtain⟨hc3,h⟩:=ax h
   obtain⟨x1,hx1,h⟩:=aS h
   refine r0 [4,5] [] [(4,.str (List.take (Int.toNat (IntKind.wrap .i64 (a1+2))-Int.toNat (IntKind.wrap .i64 (a1+1))) (xK a1 a0))),(5,vi (IntKind.wrap .i64 (a1+2)))] [] (ai.cons hc2 (ai.cons hc3 ai.nil)) (To.eq (K':=[(4,.str x1),(5,vi (IntKind.wrap .i64 (a1+2)))]) (L':=[]) (by cases hx1;rfl) (by cases hx1;rfl) (To.ah (Wp.ret (To.aA ?_))))
   cases h
   exact To.done hΓ (by kernel_rfl)
 ·refine Wp.skip (To.ah (Wp.seq (Wp.seq (rg [0,1,6,28] [] [(0,.str a0),(1,vi a1),(6,.val (.int .u8 (bK a0 a1))),(28,vb ((bK a0 a1)==39))] [] (To.ah (cn h (fun h=>?_) (fun h=>?_)))))))
  ·refine Wp.seq (Wp.seq (rg [0,1,7] [] [(0,.str a0),(1,vi a1),(ex7 a1)] [] (To.ah (Wp.block ?_))))
   obtain⟨o4,ho4,h⟩:=au h
   refine kw [0,1,7] [] [(0,.str a0),(1,vi a1),(ex7 a1)] [] (Wp.bE (Da n a0 a1 n (IntKind.wrap .i64 (a1+1)) o4 ho4 ?_))
   rcases o4 with o4|o4
   ·replace h:=cv h
    refine To.aY (To.ah (Wp.seq (rg [4,5] [] [(4,.str []),(5,vi (-1))] [] (To.ah (Wp.ret (To.aA ?_))))))
    cases h
    exact To.done hΓ (by kernel_rfl)
   ·replace h:=cy h
    refine To.aP (To.aA (To.aA ?_))
    cases h
    exact To.done hΓ (by kernel_rfl)
  ·refine Wp.skip (To.ah (Wp.seq (Wp.seq (rg [0,1,49] [] [(0,.str a0),(1,vi a1),(49,vb ((bK a0 a1) != 34))] [] (To.ah (cn h (fun h=>?_) (fun h=>?_)))))))
   ·refine Wp.seq ?_
    obtain⟨hc5,h⟩:=ax h
    obtain⟨hc6,h⟩:=ax h
    refine r0 [4,5] [] [(4,.str (Rw a1 a0)),(ex3 a1)] [] (ai.cons hc5 (ai.cons hc6 ai.nil)) (To.ah (Wp.ret (To.aA ?_)))
    cases h
    exact To.done hΓ (by kernel_rfl)
   ·refine Wp.skip (To.ah (Wp.seq (rg [0,1,8] [] [(0,.str a0),(1,vi a1),(8,.str [])] [] (To.ah (Wp.seq (rg [0,1,8] [] [(0,.str a0),(1,vi (IntKind.wrap .i64 (a1+1))),(8,.str [])] [] (To.ah (Wp.seq (Wp.block ?_)))))))))
    obtain⟨o7,ho7,h⟩:=au h
    refine kw [0,1,8] [] [(0,.str a0),(1,vi (IntKind.wrap .i64 (a1+1))),(8,.str [])] [] (Wp.bE (C5 n a0 n (IntKind.wrap .i64 (a1+1)) [] o7 ho7 ?_))
    rcases o7 with o7|o7
    ·replace h:=cv h
     refine To.aY (To.ah (Wp.seq (rg [4,5] [] [(4,.str []),(5,vi (-1))] [] (To.ah (Wp.ret ?_)))))
     cases h
     exact To.done hΓ (by kernel_rfl)
    ·replace h:=cy h
     refine To.aP (To.aA ?_)
     cases h
     exact To.done hΓ (by kernel_rfl)
def fD(n:Nat)(v0:Bs)(v4:Ls):Nat->Int->Bs->Option (Sum (Int×Bs) (Int))
 |0,_,_=>none
 |k+1,v5,v6=>if((!((decide (v5<(List.length v0:Int)))==true)||decide (0<=v5/\v5<(List.length v0:Int))))=true then(if(bif (decide (v5<(List.length v0:Int))) then(!(jq (((v0)[Int.toNat v5]?.getD 0).toNat:Int))) else false)=true then((oz n v0 v5).bind fun r1 =>
 if(decide (r1.2<0))=true then(some (.inr 3))
 else(if(decide (((List.length v6+List.length r1.1:Nat):Int)<=9223372036854775807))=true then(fD n v0 v4 k r1.2 (v6++r1.1)) else none))
 else(some (.inl (v5,v6)))) else none
theorem BM(n:Nat)(v0:Bs)(v4:Ls)(k:Nat):∀(v5:Int)(v6:Bs)(o:Sum (Int×Bs) (Int)),fD n v0 v4 k v5 v6=some o->(Sum.elim (fun s=>To 51 F0 w0 [(0,.str v0),(4,.row 1004),(5,vi s.1),(6,.str s.2)] [(1004,9,[rc1 v4])] (.exit 2) Q) (fun s=>To 51 F0 w0 [(2,.val (.slice none 0 0)),(3,vi s)] [] .ret Q)) o->WL Tryz.prog 51 F0 w0 [(0,.str v0),(4,.row 1004),(5,vi v5),(6,.str v6)] [(1004,9,[rc1 v4])] (cI (cI (cA (cB (cB (cI (cB (cI (cI (cA (cB (cB (cB (cF Tryz.f94)))))))))))))) Q:=by
 induction k with
 |zero=>intro v5 v6 o h;cases h
 |succ k ih =>
  intro v5 v6 o h hQ
  rw[fD] at h
  refine WL.round (Wp.seq (Wp.seq ?_))
  obtain⟨hc3,h⟩:=ax h
  refine rr [] [(8,vb (jq (bK v0 v5)))] [] [0,4,5,6,30] [1004] [(0,.str v0),(4,.row 1004),(5,vi v5),(6,.str v6),(30,vb (bif (mj v5 v0) then(!(jq (bK v0 v5))) else false))] [(1004,9,[rc1 v4])] [_,(((mj v5 v0)==true)=true->CX Tryz.prog 117 [.val (.int .u8 (bK v0 v5))] (vb (jq (bK v0 v5))))] (ai.cons hc3 (ai.cons (fun _=>cx (yb (bK v0 v5) _ rfl)) ai.nil)) (To.ah (cn h (fun h=>?_) (fun h=>?_)))
  ·refine Wp.skip (To.ah (Wp.block (Wp.seq ?_)))
   obtain⟨r1,hr1,h⟩:=au h
   refine rc [] 2 [0,4,6,7,8] [1004] [(0,.str v0),(4,.row 1004),(6,.str v6),(7,.str r1.1),(8,vi r1.2)] [(1004,9,[rc1 v4])] (G7 n v0 v5 _ hr1) (To.ah (Wp.seq (Wp.seq (rg [0,4,6,7,8,38] [1004] [(0,.str v0),(4,.row 1004),(6,.str v6),(7,.str r1.1),(8,vi r1.2),(38,vb (decide (r1.2<0)))] [(1004,9,[rc1 v4])] (To.ah (cn h (fun h=>?_) (fun h=>?_)))))))
   ·refine Wp.seq (rg [2,3] [] [(2,.val (.slice none 0 0)),(3,vi 3)] [] (To.ah (Wp.ret (To.aA (To.aP (To.aA ?_))))))
    cases h
    exact hQ
   ·refine Wp.skip (To.ah (Wp.seq ?_))
    obtain⟨hc2,h⟩:=ax h
    refine r0 [0,4,6,8] [1004] [(0,.str v0),(4,.row 1004),(6,.str (v6++r1.1)),(8,vi r1.2)] [(1004,9,[rc1 v4])] (ai.cons hc2 ai.nil) (To.ah (rg [0,4,5,6] [1004] [(0,.str v0),(4,.row 1004),(5,vi r1.2),(6,.str (v6++r1.1))] [(1004,9,[rc1 v4])] (To.aR (To.again ?_))))
    exact ih r1.2 (v6++r1.1) _ h hQ
  ·refine Wp.exit (To.aK (To.aK (kt [0,4,5,6] [1004] [(0,.str v0),(4,.row 1004),(5,vi v5),(6,.str v6)] [(1004,9,[rc1 v4])] ?_)))
   cases h
   exact hQ
def i7(n:Nat)(v0:Bs):Nat->(Ls)->Int->Option (Sum ((Ls)) (Int))
 |0,_,_=>none
 |k+1,v4,v5=>if(decide (v5<(List.length v0:Int)))=true then(if(decide (0<=v5/\v5<(List.length v0:Int)))=true then(if(jq (((v0)[Int.toNat v5]?.getD 0).toNat:Int))=true then(i7 n v0 k v4 (IntKind.wrap .i64 (v5+1)))
 else((fD n v0 v4 n v5 []).bind fun o1 =>
 (Sum.elim (fun o1=>if(decide ((List.length v4+List.length ([o1.2]:Ls))*(16+1)<=limit))=true then(i7 n v0 k (v4++([o1.2]:Ls)) o1.1) else none) (fun o1=>some (.inr o1))) o1)) else none)
 else(some (.inl v4))
theorem BQ(n:Nat)(v0:Bs)(k:Nat):∀(v4:Ls)(v5:Int)(o:Sum ((Ls)) (Int)),i7 n v0 k v4 v5=some o->(Sum.elim (fun s=>To 51 F0 w0 [(4,.row 1004)] [(1004,9,[rc1 s])] (.exit 0) Q) (fun s=>To 51 F0 w0 [(2,.val (.slice none 0 0)),(3,vi s)] [] .ret Q)) o->WL Tryz.prog 51 F0 w0 [(0,.str v0),(4,.row 1004),(5,vi v5)] [(1004,9,[rc1 v4])] (cI (cI (cA (cB (cB (cB (cF Tryz.f94))))))) Q:=by
 induction k with
 |zero=>intro v4 v5 o h;cases h
 |succ k ih =>
  intro v4 v5 o h hQ
  rw[i7] at h
  refine WL.round (Wp.seq (Wp.seq (rg [0,4,5,13] [1004] [(0,.str v0),(4,.row 1004),(5,vi v5),(13,vb (mj v5 v0))] [(1004,9,[rc1 v4])] (To.ah (cn h (fun h=>?_) (fun h=>?_))))))
  ·refine Wp.skip (To.ah (Wp.block (Wp.seq (Wp.seq ?_))))
   obtain⟨hc3,h⟩:=ax h
   refine rr [] [(3,vb (jq (bK v0 v5)))] [] [0,4,5,17] [1004] [(0,.str v0),(4,.row 1004),(5,vi v5),(17,vb (jq (bK v0 v5)))] [(1004,9,[rc1 v4])] [_,_] (ai.cons hc3 (ai.cons (c1 (yb (bK v0 v5) _ rfl)) ai.nil)) (To.ah (cn h (fun h=>?_) (fun h=>?_)))
   ·refine Wp.seq (rg [0,4,5] [1004] [(0,.str v0),(4,.row 1004),(ex3 v5)] [(1004,9,[rc1 v4])] (To.ah (Wp.exit (To.aK (To.aY (To.again ?_))))))
    exact ih v4 (IntKind.wrap .i64 (v5+1)) _ h hQ
   ·refine Wp.skip (To.ah (Wp.seq (rg [0,4,5,6] [1004] [(0,.str v0),(4,.row 1004),(5,vi v5),(6,.str [])] [(1004,9,[rc1 v4])] (To.ah (Wp.seq (Wp.block ?_))))))
    obtain⟨o1,ho1,h⟩:=au h
    refine kw [0,4,5,6] [1004] [(0,.str v0),(4,.row 1004),(5,vi v5),(6,.str [])] [(1004,9,[rc1 v4])] (Wp.bE (BM n v0 v4 n v5 [] o1 ho1 ?_))
    rcases o1 with o1|o1
    ·replace h:=cv h
     refine To.aY (To.ah ?_)
     obtain⟨hc2,h⟩:=ax h
     refine rr [] [(2,ls [o1.2]),(3,ls (v4++([o1.2]:Ls)))] [] [0,4,5] [46] [(0,.str v0),(4,.row 46),(5,vi o1.1)] [(46,9,[rc1 (v4++([o1.2]:Ls))])] [(ck 1 [.str o1.2] 1 (ls [o1.2])/\aM (ls [o1.2])),_,(gY [] aW v4 (List.flatMap aW ([o1.2]:Ls)) (List.length ([o1.2]:Ls)) (ls (v4++([o1.2]:Ls)))/\aM (ls (v4++([o1.2]:Ls))))] (ai.cons (du (by kernel_rfl) rfl (by kernel_rfl) (aI _)) (ai.cons hc2 (ai.cons (iI rfl rfl (aI _)) ai.nil))) (To.aR (nt [0,4,5] [46] [(46,1004)] [0,4,5] [1004] [(0,.str v0),(4,.row 1004),(5,vi o1.1)] [(1004,9,[rc1 (v4++([o1.2]:Ls))])] (To.again ?_)))
     exact ih (v4++([o1.2]:Ls)) o1.1 _ h hQ
    ·replace h:=cy h
     refine To.aP (To.aA (To.aP (To.aA (kt [2,3] [] [(2,.val (.slice none 0 0)),(3,vi o1)] [] ?_))))
     cases h
     exact hQ
  ·refine Wp.exit (To.aK (To.aK (kt [4] [1004] [(4,.row 1004)] [(1004,9,[rc1 v4])] ?_)))
   cases h
   exact hQ
def qK(n:Nat)(a0:Bs):Option ((Ls)×Int) :=
 (i7 n a0 n ([]:Ls) 0).bind fun o1 =>
 (Sum.elim (fun o1=>if(decide ((List.length o1:Int)>32))=true then(some ([],9))
 else(some (o1,0))) (fun o1=>some ([],o1))) o1
theorem Hu(n:Nat)(a0:Bs)(r:(Ls)×Int)(h:qK n a0=some r):aJ Tryz.prog 94 [.str a0] (.tup [ls r.1,vi r.2]):=by
 unfold qK at h
 refine xo Tryz.f94 rfl fun F0 w0 _=>?_
 refine Wp.seq (rg [0] [] [(0,.str a0)] [] (To.ah (Wp.seq (rr [] [(0,ls [])] [] [0,4] [9] [(0,.str a0),(4,.row 9)] [(9,9,[rc1 []])] [(ck 1 [] 0 (ls [])/\aM (ls []))] (ai.cons (du (by kernel_rfl) rfl (by kernel_rfl) (aI _)) ai.nil) (To.ah (Wp.seq (rg [0,4,5] [9] [(0,.str a0),(4,.row 9),(5,vi 0)] [(9,9,[rc1 []])] (To.ah (Wp.seq (Wp.block ?_))))))))))
 obtain⟨o1,ho1,h⟩:=au h
 refine nw [0,4,5] [9] [(9,1004)] [0,4,5] [1004] [(0,.str a0),(4,.row 1004),(5,vi 0)] [(1004,9,[rc1 []])] (Wp.bE (BQ n a0 n ([]:Ls) 0 o1 ho1 ?_))
 rcases o1 with o1|o1
 ·replace h:=cv h
  refine To.aY (To.ah (Wp.seq (Wp.seq (rg [4,49] [1004] [(4,.row 1004),(49,vb (decide ((List.length o1:Int)>32)))] [(1004,9,[rc1 o1])] (To.ah (cn h (fun h=>?_) (fun h=>?_)))))))
  ·refine Wp.seq (rg [2,3] [] [(2,.val (.slice none 0 0)),(3,vi 9)] [] (To.ah (Wp.ret (To.aA (To.weak (K':=[(2,ls []),(3,vi 9)]) (L':=[]) (.cons (.zero _ _) (.cons (.refl _) .nil)) .nil ?_)))))
   cases h
   exact To.done hΓ (by kernel_rfl)
  ·refine Wp.skip (To.ah (Wp.seq (rg [2,3] [1004] [(2,.row 1004),(3,vi 0)] [(1004,9,[rc1 o1])] (To.ah (Wp.ret (To.pre (St.settle (ks:=[1004]) (kk:=[2,3]) (kl:=[1004]) (K':=[(2,.row 1004),(3,vi 0)]) (L':=[(1004,9,[rc2 o1])]) (by kernel_rfl)) (To.pre (St.xk [2] (K':=[(2,ls o1),(3,vi 0)]) (by kernel_rfl)) ?_)))))))
   cases h
   exact To.done hΓ (by kernel_rfl)
 ·replace h:=cy h
  refine To.aP (To.aA (kt [2,3] [] [(2,.val (.slice none 0 0)),(3,vi o1)] [] (To.weak (K':=[(2,ls []),(3,vi o1)]) (L':=[]) (.cons (.zero _ _) (.cons (.refl _) .nil)) .nil ?_)))
  cases h
  exact To.done hΓ (by kernel_rfl)
def nu(n:Nat)(v4:Ls)(v5:Bool)(v17:Bool)(b1:af)(b2:af):Option ((Ls)×Bool) :=
 if v17=true then((qK n b1.aC).bind fun r2 =>
 some (r2.1,(r2.2==0)))
 else(some (v4,v5))
theorem BK(n:Nat)(v4:Ls)(v5:Bool)(v17:Bool)(b1:af)(b2:af)(o:(Ls)×Bool)(h:nu n v4 v5 v17 b1 b2=some o)(hQ:To 48 F0 w0 [(2,.own 2 0),(4,ls o.1),(5,vb o.2)] [(2,25,qc6 b2)] .normal Q):Wp Tryz.prog 48 F0 w0 [(1,.own 1 0),(2,.own 2 0),(4,ls v4),(5,vb v5),(17,vb v17)] [(1,25,qc6 b1),(2,25,qc6 b2)] (cB (cA (cB (cB (cF Tryz.f70))))) Q:=by
 unfold nu at h
 refine cn h (fun h=>?_) (fun h=>?_)
 ·refine Wp.seq ?_
  obtain⟨r2,hr2,h⟩:=au h
  refine rc [] 2 [2,6,7] [2] [(2,.own 2 0),(6,ls r2.1),(7,vi r2.2)] [(2,25,qc6 b2)] (Hu n b1.aC _ hr2) (To.ah (Wp.seq (rg [2,4,7] [2] [(2,.own 2 0),(4,ls r2.1),(7,vi r2.2)] [(2,25,qc6 b2)] (To.ah (rg [2,4,5] [2] [(2,.own 2 0),(4,ls r2.1),(5,vb (r2.2==0))] [(2,25,qc6 b2)] (kt [2,4,5] [2] [(2,.own 2 0),(4,ls r2.1),(5,vb (r2.2==0))] [(2,25,qc6 b2)] ?_))))))
  cases h
  exact hQ
 ·refine Wp.skip (kt [2,4,5] [2] [(2,.own 2 0),(4,ls v4),(5,vb v5)] [(2,25,qc6 b2)] ?_)
  cases h
  exact hQ
def gJ(n:Nat)(v4:Ls)(b2:af):Nat->Int->af->Option (af)
 |0,_,_=>none
 |k+1,v9,b8=>if(decide (v9<(List.length v4:Int)))=true then(if(decide (0<=v9/\v9<(List.length v4:Int)))=true then(aQ (dA ((v4)[Int.toNat v9]?.getD [])) fun r3 =>
 if(decide ((List.length b8.aj+List.length ([r3]:List (af)))*(72+1)<=limit))=true then(gJ n v4 b2 k (IntKind.wrap .i64 (v9+1)) (af.mk b8.av b8.aC b8.ak (b8.aj++([r3]:List (af))))) else none) else none)
 else some b8
abbrev oH(k0:Nat)(x:af):List D:=[vi x.av,.str x.aC,ls x.ak,.row k0]
abbrev Hf(x0:Int):Nat×D:=(9,vi (IntKind.wrap .i64 (x0+1)))
theorem BO(n:Nat)(v4:Ls)(b2:af)(k:Nat):∀(v9:Int)(b8:af)(o:af),gJ n v4 b2 k v9 b8=some o->To 48 F0 w0 [(2,.own 2 0),(8,.own 8 0)] [(2,25,qc6 b2),(8,25,oH 4483 o),(4483,25,[rc9 o.aj])] (.exit 0) Q->WL Tryz.prog 48 F0 w0 [(2,.own 2 0),(4,ls v4),(8,.own 8 0),(9,vi v9)] [(2,25,qc6 b2),(8,25,oH 4483 b8),(4483,25,[rc9 b8.aj])] (cI (cI (cB (cA (cB (cB (cB (cB (cB (cF Tryz.f70)))))))))) Q:=by
 induction k with
 |zero=>intro v9 b8 o h;cases h
 |succ k ih =>
  intro v9 b8 o h hQ
  rw[gJ] at h
  refine WL.round (Wp.seq (Wp.seq (rg [2,4,8,9,34] [2,8,4483] [(2,.own 2 0),(4,ls v4),(8,.own 8 0),(9,vi v9),(34,vb (ex4 v9 v4))] [(2,25,qc6 b2),(8,25,oH 4483 b8),(4483,25,[rc9 b8.aj])] (To.ah (cn h (fun h=>?_) (fun h=>?_))))))
  ·refine Wp.skip (To.ah (Wp.seq (Wp.block ?_)))
   obtain⟨hc4,h⟩:=ax h
   obtain⟨r3,hr3,h⟩:=aS h
   obtain⟨hc5,h⟩:=ax h
   refine Wp.bI hm hΓ [(6,.agg (qc6 r3)),(7,rs8 [r3]),(8,.row 45),(1008,rs8 (b8.aj++([r3]:List (af))))] [2,4,8,9] [2,8,45] (K':=[(2,.own 2 0),(4,ls v4),(8,.own 8 0),(9,vi v9)]) (L':=[(2,25,qc6 b2),(8,25,oH 45 b8),(45,25,[rc9 (b8.aj++([r3]:List (af)))])]) (ob:=[(zw v9 v4)=true,(true=true->CX Tryz.prog 91 [.str ((v4)[Int.toNat v9]?.getD [])] (.agg (qc6 r3))),(true=true->ck 4 (qc6 r3) 1 (rs8 [r3])/\aM (rs8 [r3])),(decide ((List.length b8.aj+List.length ([r3]:List (af)))*(72+1)<=limit))=true,(gY zx3 bY b8.aj (List.flatMap bY ([r3]:List (af))) (List.length ([r3]:List (af))) (rs8 (b8.aj++([r3]:List (af))))/\aM (rs8 (b8.aj++([r3]:List (af)))))]) (by kernel_rfl) (ai.cons hc4 (ai.cons (fun _=>cx (dM ((v4)[Int.toNat v9]?.getD []) _ hr3)) (ai.cons (fun _=>du (by kernel_rfl) rfl (by kernel_rfl) (bg _)) (ai.cons hc5 (ai.cons (iI rfl rfl (bg _)) ai.nil))))) (To.aR (To.ah (rg [2,4,8,9] [2,8,45] [(2,.own 2 0),(4,ls v4),(8,.own 8 0),(Hf v9)] [(2,25,qc6 b2),(8,25,oH 45 b8),(45,25,[rc9 (b8.aj++([r3]:List (af)))])] (nt [2,4,8,9] [2,8,45] [(45,4483)] [2,4,8,9] [2,8,4483] [(2,.own 2 0),(4,ls v4),(8,.own 8 0),(Hf v9)] [(2,25,qc6 b2),(8,25,oH 4483 b8),(4483,25,[rc9 (b8.aj++([r3]:List (af)))])] (To.again ?_)))))
   exact ih (IntKind.wrap .i64 (v9+1)) (af.mk b8.av b8.aC b8.ak (b8.aj++([r3]:List (af)))) _ h hQ
  ·refine Wp.exit (To.aK (To.aK (kt [2,8] [2,8,4483] [(2,.own 2 0),(8,.own 8 0)] [(2,25,qc6 b2),(8,25,oH 4483 b8),(4483,25,[rc9 b8.aj])] ?_)))
   cases h
   exact hQ
def qD(n:Nat)(a0:af):Option (af×Bool) :=
 (fM n a0).bind fun r1 =>
 (nu n r1.1 r1.2 (a0.av==1) a0 (af.mk 0 [] [] [])).bind fun o2 =>
 if(!o2.2)=true then(some ((af.mk 0 [] [] []),false))
 else((gJ n o2.1 (af.mk 0 [] [] []) n 0 (af.mk 2 [] [] [])).bind fun o3 =>
 some (o3,true))
abbrev OD(x:af):List D:=[vi x.av,.str x.aC,ls x.ak,rs8 x.aj]
theorem HY(n:Nat)(a0:af)(r:af×Bool)(h:qD n a0=some r):aJ Tryz.prog 70 [.agg (qc6 a0)] (.tup [.agg (qc6 r.1),vb r.2]):=by
 unfold qD at h
 refine xo Tryz.f70 rfl fun F0 w0 _=>?_
 refine Wp.seq (rg [1,2] [1,2] [(1,.own 1 0),(2,.own 2 0)] [(1,25,qc6 a0),(2,25,[vi 0,.str [],.val (.slice none 0 0),.val (.slice none 0 0)])] (To.ah (Wp.seq ?_)))
 obtain⟨r1,hr1,h⟩:=au h
 refine rc [] 1 [1,2,4,5] [1,2] [(1,.own 1 0),(2,.own 2 0),(4,ls r1.1),(5,vb r1.2)] [(1,25,qc6 a0),(2,25,[vi 0,.str [],.val (.slice none 0 0),.val (.slice none 0 0)])] (mT n a0 _ hr1) (To.ah (Wp.seq (Wp.seq (rg [1,2,4,5,17] [1,2] [(1,.own 1 0),(2,.own 2 0),(4,ls r1.1),(5,vb r1.2),(17,vb (a0.av==1))] [(1,25,qc6 a0),(2,25,[vi 0,.str [],.val (.slice none 0 0),.val (.slice none 0 0)])] (To.ah ?_)))))
 obtain⟨o2,ho2,h⟩:=au h
 refine kw [1,2,4,5,17] [1,2] [(1,.own 1 0),(2,.own 2 0),(4,ls r1.1),(5,vb r1.2),(17,vb (a0.av==1))] [(1,25,qc6 a0),(2,25,[vi 0,.str [],.val (.slice none 0 0),.val (.slice none 0 0)])] (Wp.weak (K':=[(1,.own 1 0),(2,.own 2 0),(4,ls r1.1),(5,vb r1.2),(17,vb (a0.av==1))]) (L':=[(1,25,qc6 a0),(2,25,[vi 0,.str [],ls [],tn4 []])]) (.cons (.refl _) (.cons (.refl _) (.cons (.refl _) (.cons (.refl _) (.cons (.refl _) .nil))))) (.cons (.cons (.refl _) (.cons (.refl _) (.cons (.refl _) (.cons (.refl _) .nil)))) (.cons (.cons (.refl _) (.cons (.refl _) (.cons (.zero _ _) (.cons (.bu _ _ _) .nil)))) .nil)) (BK n r1.1 r1.2 (a0.av==1) a0 zx3 o2 ho2 (To.ah (Wp.seq (Wp.seq (rg [2,4,28] [2] [(2,.own 2 0),(4,ls o2.1),(28,vb (!o2.2))] [(2,25,[vi 0,.str [],ls [],tn4 []])] (To.ah (cn h (fun h=>?_) (fun h=>?_)))))))))
 ·refine Wp.seq (rg [2,3] [2] [(2,.own 2 0),(3,vb false)] [(2,25,[vi 0,.str [],.val (.slice none 0 0),.val (.slice none 0 0)])] (To.ah (Wp.ret (To.aA (To.weak (K':=[(2,.own 2 0),(3,vb false)]) (L':=[(2,25,[vi 0,.str [],ls [],tn4 []])]) (.cons (.refl _) (.cons (.refl _) .nil)) (.cons (.cons (.refl _) (.cons (.refl _) (.cons (.zero _ _) (.cons (.bu _ _ _) .nil)))) .nil) ?_)))))
  cases h
  exact To.done hΓ (by kernel_rfl)
 ·refine Wp.skip (To.ah (Wp.seq (rg [2,4,8] [2,8] [(2,.own 2 0),(4,ls o2.1),(8,.own 8 0)] [(2,25,[vi 0,.str [],ls [],tn4 []]),(8,25,[vi 2,.str [],.val (.slice none 0 0),.val (.slice none 0 0)])] (To.ah (Wp.seq (Wp.seq (rg [2,4,8,9] [2,8] [(2,.own 2 0),(4,ls o2.1),(8,.own 8 0),(9,vi 0)] [(2,25,[vi 0,.str [],ls [],tn4 []]),(8,25,[vi 2,.str [],.val (.slice none 0 0),.val (.slice none 0 0)])] (To.ah (Wp.block ?_)))))))))
  obtain⟨o3,ho3,h⟩:=au h
  refine kw [2,4,8,9] [2,8] [(2,.own 2 0),(4,ls o2.1),(8,.own 8 0),(9,vi 0)] [(2,25,[vi 0,.str [],ls [],tn4 []]),(8,25,[vi 2,.str [],.val (.slice none 0 0),.val (.slice none 0 0)])] (Wp.pre (St.rK 8 3 4483 25 (bg _) (by decide) (by kernel_rfl) (L':=[(2,25,[vi 0,.str [],ls [],tn4 []]),(8,25,[vi 2,.str [],.val (.slice none 0 0),.row 4483])]) (by kernel_rfl)) (kw [2,4,8,9] [2,8,4483] [(2,.own 2 0),(4,ls o2.1),(8,.own 8 0),(9,vi 0)] [(2,25,[vi 0,.str [],ls [],tn4 []]),(8,25,[vi 2,.str [],.val (.slice none 0 0),.row 4483]),(4483,25,[rc9 []])] (Wp.weak (K':=[(2,.own 2 0),(4,ls o2.1),(8,.own 8 0),(9,vi 0)]) (L':=[(2,25,[vi 0,.str [],ls [],tn4 []]),(8,25,[vi 2,.str [],ls [],.row 4483]),(4483,25,[rc9 []])]) (.cons (.refl _) (.cons (.refl _) (.cons (.refl _) (.cons (.refl _) .nil)))) (.cons (.cons (.refl _) (.cons (.refl _) (.cons (.refl _) (.cons (.refl _) .nil)))) (.cons (.cons (.refl _) (.cons (.refl _) (.cons (.zero _ _) (.cons (.refl _) .nil)))) (.cons (.cons (.refl _) .nil) .nil))) (Wp.bE (BO n o2.1 zx3 n 0 (af.mk 2 [] [] []) o3 ho3 (To.aY (To.ah (Wp.seq (rg [2,3] [2,4483] [(2,.own 2 0),(3,vb true)] [(2,25,oH 4483 o3),(4483,25,[rc9 o3.aj])] (To.ah (Wp.ret ?_)))))))))))
  refine To.pre (St.settle (ks:=[4483]) (kk:=[2,3]) (kl:=[2,4483]) (K':=[(2,.own 2 0),(3,vb true)]) (L':=[(2,25,oH 4483 o3),(4483,25,[iY o3.aj])]) (by kernel_rfl)) (To.pre (St.uS [2] (L':=[(2,25,OD o3),(4483,25,[iY o3.aj])]) (by kernel_rfl)) (To.weak (K':=[(2,.own 2 0),(3,vb true)]) (L':=[(2,25,qc6 o3),(4483,25,[iY o3.aj])]) (.cons (.refl _) (.cons (.refl _) .nil)) (.cons (.cons (.refl _) (.cons (.refl _) (.cons (.refl _) (.cons (.close _ _ _ _) .nil)))) (.cons (.cons (.refl _) .nil) .nil)) ?_))
  cases h
  exact To.done hΓ (by kernel_rfl)
def gK(n:Nat)(v0:Bs):Nat->Int->Option (Sum (Unit) (Bool))
 |0,_=>none
 |k+1,v3=>if(decide (v3<(List.length v0:Int)))=true then(if(decide (0<=v3/\v3<(List.length v0:Int)))=true then(aQ ((bif (bif ((bH (((v0)[Int.toNat v3]?.getD 0).toNat:Int))==0) then true else(decide ((bH (((v0)[Int.toNat v3]?.getD 0).toNat:Int))>4))) then true else(bif (v3==0) then((bH (((v0)[Int.toNat v3]?.getD 0).toNat:Int))==3) else false)):Bool) fun x1 =>
 if x1=true then(some (.inr false))
 else(gK n v0 k (IntKind.wrap .i64 (v3+1)))) else none)
 else(some (.inl ()))
end Go.Proofs.YtpmmhhmhckpnfaaGreat.M
