import Derived.Test.YtpmmhhmhckpnfaaGreatQM23f
set_option linter.all false
namespace Go.Proofs.YtpmmhhmhckpnfaaGreat.M
open Go.RowKit Go.Proofs.YtpmmhhmhckpnfaaGreat.RX
set_option maxRecDepth 100000
variable {F0:Fz} {w0:Pt Tryz.prog} {Q:Exit->Act->World->Prop}
theorem C6(n:Nat)(b4:List (Int))(b12:List (Int))(k:Nat):∀(v5:Bool)(v13:Int)(v14:Int)(o:Bool×Int),eF n b4 b12 k v5 v13 v14=some o->To 87 F0 w0 [(5,vb o.1),(13,vi o.2)] [] (.exit 2) Q->WL Tryz.prog 87 F0 w0 [(4,.elm 4 0 1 0),(5,vb v5),(12,.elm 12 0 1 0),(13,vi v13),(14,vi v14)] [(4,138,[rc25 b4]),(12,138,[rc25 b12])] (cI (cI (cB (cA (cB (cB (cB (cB (cB (cB (cB (cB (cF Tryz.f125))))))))))))) Q:=by
 induction k with
 |zero=>intro v5 v13 v14 o h;cases h
 |succ k ih =>
  intro v5 v13 v14 o h hQ
  rw[eF] at h
  refine WL.round (Wp.seq (Wp.seq (rg [4,5,12,13,14,59] [4,12] [(4,.elm 4 0 1 0),(5,vb v5),(12,.elm 12 0 1 0),(13,vi v13),(14,vi v14),(59,vb (decide (v14<4)))] [(4,138,[rc25 b4]),(12,138,[rc25 b12])] (To.ah (cn h (fun h=>?_) (fun h=>?_))))))
  ·refine Wp.skip (To.ah (Wp.seq ?_))
   obtain⟨o4,ho4,h⟩:=au h
   refine kw [4,5,12,13,14] [4,12] [(4,.elm 4 0 1 0),(5,vb v5),(12,.elm 12 0 1 0),(13,vi v13),(14,vi v14)] [(4,138,[rc25 b4]),(12,138,[rc25 b12])] (C9 n v5 v13 v14 b4 b12 o4 ho4 (To.ah (rg [4,5,12,13,14] [4,12] [(4,.elm 4 0 1 0),(5,vb o4.1),(12,.elm 12 0 1 0),(13,vi o4.2),(14,vi (IntKind.wrap .i64 (v14+1)))] [(4,138,[rc25 b4]),(12,138,[rc25 b12])] (kt [4,5,12,13,14] [4,12] [(4,.elm 4 0 1 0),(5,vb o4.1),(12,.elm 12 0 1 0),(13,vi o4.2),(14,vi (IntKind.wrap .i64 (v14+1)))] [(4,138,[rc25 b4]),(12,138,[rc25 b12])] (To.again ?_)))))
   exact ih o4.1 o4.2 (IntKind.wrap .i64 (v14+1)) _ h hQ
  ·refine Wp.exit (To.aK (To.aK (kt [5,13] [] [(5,vb v5),(13,vi v13)] [] ?_)))
   cases h
   exact hQ
def qO(n:Nat)(a0:Bs):Option (Int×Int) :=
 if((List.length a0:Int)==0)=true then(some (0,3))
 else((kR n n a0 false (-1) (List.replicate 4 0)).bind fun o1 =>
 (Sum.elim (fun o1=>(ox n).bind fun r2 =>
 if(decide (List.length r2=4))=true then((eF n o1.2 r2 n o1.1 0 0).bind fun o4 =>
 if(bif o4.1 then true else(decide (o4.2>1099511627776)))=true then(some (0,9))
 else(some (o4.2,0))) else none) (fun o1=>some (o1.1,o1.2))) o1)
theorem GY(n:Nat)(a0:Bs)(r:Int×Int)(h:qO n a0=some r):aJ Tryz.prog 125 [.str a0] (.tup [vi r.1,vi r.2]):=by
 unfold qO at h
 refine xo Tryz.f125 rfl fun F0 w0 _=>?_
 refine Wp.seq (rg [0] [] [(0,.str a0)] [] (To.ah (Wp.seq (rg [0,4] [4] [(0,.str a0),(4,.own 4 0)] [(4,138,[vi 0,vi 0,vi 0,vi 0])] (To.pre (St.Be (t:=138) (l:=(List.replicate 4 0)) 4 1 4 (by decide) (by decide) (sF _) (by kernel_rfl) (by kernel_rfl) (by kernel_rfl) (by kernel_rfl) (K':=[(0,.str a0),(4,.elm 4 0 1 0)]) (L':=[(4,138,[rc25 (List.replicate 4 0)])]) (by kernel_rfl) (by kernel_rfl)) (To.ah (Wp.seq (rg [0,4,5] [4] [(0,.str a0),(4,.elm 4 0 1 0),(5,vb false)] [(4,138,[rc25 (List.replicate 4 0)])] (To.ah (Wp.seq ?_))))))))))
 refine rg [0,4,5,6] [4] [(0,.str a0),(4,.elm 4 0 1 0),(5,vb false),(6,vi (-1))] [(4,138,[rc25 (List.replicate 4 0)])] (To.ah (Wp.seq (Wp.seq (rg [0,4,5,6,17] [4] [(0,.str a0),(4,.elm 4 0 1 0),(5,vb false),(6,vi (-1)),(17,vb ((List.length a0:Int)==0))] [(4,138,[rc25 (List.replicate 4 0)])] (To.ah (cn h (fun h=>?_) (fun h=>?_)))))))
 ·refine Wp.seq (rg [2,3] [] [(2,vi 0),(3,vi 3)] [] (To.ah (Wp.ret (To.aA ?_))))
  cases h
  exact To.done hΓ (by kernel_rfl)
 ·refine Wp.skip (To.ah (Wp.seq (Wp.block ?_)))
  obtain⟨o1,ho1,h⟩:=au h
  refine kw [0,4,5,6] [4] [(0,.str a0),(4,.elm 4 0 1 0),(5,vb false),(6,vi (-1))] [(4,138,[rc25 (List.replicate 4 0)])] (Wp.bE (CW n n a0 false (-1) (List.replicate 4 0) o1 ho1 ?_))
  rcases o1 with o1|o1
  ·replace h:=cv h
   refine To.aY (To.ah (Wp.seq ?_))
   obtain⟨r2,hr2,h⟩:=au h
   obtain⟨u3,h⟩:=ax h
   refine rr [] [(0,.arr (α:=Int) 0 vu r2),(2,vY r2)] [] [4,5,12] [4,12] [(4,.elm 4 0 1 0),(5,vb o1.1),(12,.elm 12 0 1 0)] [(4,138,[rc25 o1.2]),(12,138,[rc25 r2])] [_,(ck 1 (D.cells (.arr (α:=Int) 0 vu r2)) 4 (vY r2)/\aM (vY r2))] (ai.cons (c1 (xZ n  _ hr2)) (ai.cons (du rfl (of_decide_eq_true u3) rfl (sF _)) ai.nil)) (To.ah (Wp.seq (rg [4,5,12,13] [4,12] [(4,.elm 4 0 1 0),(5,vb o1.1),(12,.elm 12 0 1 0),(13,vi 0)] [(4,138,[rc25 o1.2]),(12,138,[rc25 r2])] (To.ah (Wp.seq (Wp.seq (rg [4,5,12,13,14] [4,12] [(4,.elm 4 0 1 0),(5,vb o1.1),(12,.elm 12 0 1 0),(13,vi 0),(14,vi 0)] [(4,138,[rc25 o1.2]),(12,138,[rc25 r2])] (To.ah (Wp.block ?_)))))))))
   obtain⟨o4,ho4,h⟩:=au h
   refine kw [4,5,12,13,14] [4,12] [(4,.elm 4 0 1 0),(5,vb o1.1),(12,.elm 12 0 1 0),(13,vi 0),(14,vi 0)] [(4,138,[rc25 o1.2]),(12,138,[rc25 r2])] (Wp.bE (C6 n o1.2 r2 n o1.1 0 0 o4 ho4 (To.aY (To.ah (Wp.seq (Wp.seq (rg [13,85] [] [(13,vi o4.2),(85,vb (bif o4.1 then true else(decide (o4.2>1099511627776))))] [] (To.ah (cn h (fun h=>?_) (fun h=>?_))))))))))
   ·refine Wp.seq (rg [2,3] [] [(2,vi 0),(3,vi 9)] [] (To.ah (Wp.ret (To.aA ?_))))
    cases h
    exact To.done hΓ (by kernel_rfl)
   ·refine Wp.skip (To.ah (Wp.seq (rg [2,3] [] [(2,vi o4.2),(3,vi 0)] [] (To.ah (Wp.ret ?_)))))
    cases h
    exact To.done hΓ (by kernel_rfl)
  ·replace h:=cy h
   refine To.aP (To.aA ?_)
   cases h
   exact To.done hΓ (by kernel_rfl)
def uJ(n:Nat):Option ((Ls)) :=
 if(decide (List.length (List.replicate 4 ([]:Bs))=4))=true then(if(decide (List.length ([[104],[109],[115],[109,115]]:Ls)=4))=true then some ([[104],[109],[115],[109,115]]:Ls) else none) else none
theorem Ig(n:Nat)(r:(Ls))(h:uJ n=some r):aJ Tryz.prog 136 [] (.arr (α:=Bs) [] aW r):=by
 unfold uJ at h
 refine xo Tryz.f136 rfl fun F0 w0 _=>?_
 refine Wp.seq (rg [0] [0] [(0,.own 0 0)] [(0,142,[.str [],.str [],.str [],.str []])] (To.pre (St.Be (t:=142) (l:=(List.replicate 4 ([]:Bs))) 0 1 4 (by decide) (by decide) (aI _) (by kernel_rfl) (by kernel_rfl) (by kernel_rfl) (by kernel_rfl) (K':=[(0,.elm 0 0 1 0)]) (L':=[(0,142,[rc1 (List.replicate 4 ([]:Bs))])]) (by kernel_rfl) (by kernel_rfl)) (To.ah (Wp.seq ?_))))
 obtain⟨hc2,h⟩:=ax h
 refine rr [] [(1,ls ([[104],[109],[115],[109,115]]:Ls))] [] [0] [0] [(0,.elm 0 0 1 0)] [(0,142,[rc1 ([[104],[109],[115],[109,115]]:Ls)])] [_,(ck 1 (D.cells (.agg [.str [104],.str [109],.str [115],.str [109,115]])) 4 (ls ([[104],[109],[115],[109,115]]:Ls))/\aM (ls ([[104],[109],[115],[109,115]]:Ls)))] (ai.cons hc2 (ai.cons (du (by kernel_rfl) rfl (by kernel_rfl) (aI _)) ai.nil)) (To.ah (Wp.ret ?_))
 obtain⟨hc1,h⟩:=ax h
 cases h
 exact To.Sm hΓ (by kernel_rfl) hc1
def qW(n:Nat)(v0:Int)(v3:Bs)(v6:Int)(v26:Bool)(b4:List (Int))(b5:Ls):Option (Bs) :=
 if v26=true then(if(decide (0<=v6/\v6<(4:Int)))=true then(if(decide (0<=v6/\v6<(List.length b4:Int)))=true then(if((((b4)[Int.toNat v6]?.getD 0) != 0))=true then((ft n (IntKind.wrap .i64 (Int.tdiv v0 ((b4)[Int.toNat v6]?.getD 0)))).bind fun r5 =>
 if(decide (((List.length v3+List.length r5:Nat):Int)<=9223372036854775807))=true then(if(decide (0<=v6/\v6<(List.length b5:Int)))=true then(if(decide (((List.length (v3++r5)+List.length ((b5)[Int.toNat v6]?.getD []):Nat):Int)<=9223372036854775807))=true then(some ((v3++r5)++((b5)[Int.toNat v6]?.getD []))) else none) else none) else none) else none) else none) else none)
 else some v3
abbrev J9(x0:Int)(x1:List (Int))(x2:Int):=(IntKind.wrap .i64 (Int.tdiv x0 ((x1)[Int.toNat x2]?.getD 0)))
theorem EE(n:Nat)(v0:Int)(v3:Bs)(v6:Int)(v26:Bool)(b4:List (Int))(b5:Ls)(o:Bs)(h:qW n v0 v3 v6 v26 b4 b5=some o)(hQ:To 45 F0 w0 [(0,vi v0),(3,.str o),(4,.elm 4 0 1 0),(5,.elm 5 0 1 0),(6,vi v6)] [(4,138,[rc25 b4]),(5,142,[rc1 b5])] .normal Q):Wp Tryz.prog 45 F0 w0 [(0,vi v0),(3,.str v3),(4,.elm 4 0 1 0),(5,.elm 5 0 1 0),(6,vi v6),(26,vb v26)] [(4,138,[rc25 b4]),(5,142,[rc1 b5])] (cB (cA (cI (cA (cB (cI (cI (cB (cA (cB (cB (cB (cB (cB (cB (cF Tryz.f126)))))))))))))))) Q:=by
 unfold qW at h
 refine cn h (fun h=>?_) (fun h=>?_)
 ·obtain⟨hc6,h⟩:=ax h
  obtain⟨hc7,h⟩:=ax h
  obtain⟨hc8,h⟩:=ax h
  obtain⟨r5,hr5,h⟩:=au h
  obtain⟨hc9,h⟩:=ax h
  obtain⟨hc10,h⟩:=ax h
  obtain⟨hc11,h⟩:=ax h
  refine Wp.bI hm hΓ [(6,.str r5)] [0,3,4,5,6] [4,5] (K':=[(0,vi v0),(3,.str ((v3++r5)++((b5)[Int.toNat v6]?.getD []))),(4,.elm 4 0 1 0),(5,.elm 5 0 1 0),(6,vi v6)]) (L':=[(4,138,[rc25 b4]),(5,142,[rc1 b5])]) (ob:=[(Io v6)=true,(Ku v6 b4)=true,((((b4)[Int.toNat v6]?.getD 0) != 0))=true,(true=true->CX Tryz.prog 106 [vi (J9 v0 b4 v6)] (.str r5)),(decide (((List.length v3+List.length r5:Nat):Int)<=9223372036854775807))=true,(Io v6)=true,(zw v6 b5)=true,(decide (((List.length (v3++r5)+List.length ((b5)[Int.toNat v6]?.getD []):Nat):Int)<=9223372036854775807))=true]) (by kernel_rfl) (ai.cons hc6 (ai.cons hc7 (ai.cons hc8 (ai.cons (fun _=>cx (og n (J9 v0 b4 v6) _ hr5)) (ai.cons hc9 (ai.cons hc6 (ai.cons hc10 (ai.cons hc11 ai.nil)))))))) (kt [0,3,4,5,6] [4,5] [(0,vi v0),(3,.str ((v3++r5)++((b5)[Int.toNat v6]?.getD []))),(4,.elm 4 0 1 0),(5,.elm 5 0 1 0),(6,vi v6)] [(4,138,[rc25 b4]),(5,142,[rc1 b5])] ?_)
  cases h
  exact hQ
 ·refine Wp.skip (kt [0,3,4,5,6] [4,5] [(0,vi v0),(3,.str v3),(4,.elm 4 0 1 0),(5,.elm 5 0 1 0),(6,vi v6)] [(4,138,[rc25 b4]),(5,142,[rc1 b5])] ?_)
  cases h
  exact hQ
def qY(n:Nat)(v0:Int)(v3:Bs)(v6:Int)(b4:List (Int))(b5:Ls):Option (Int×Bs) :=
 if(decide (0<=v6/\v6<(4:Int)))=true then(if(decide (0<=v6/\v6<(List.length b4:Int)))=true then(if((((b4)[Int.toNat v6]?.getD 0) != 0))=true then((qW n v0 v3 v6 (decide ((IntKind.wrap .i64 (Int.tdiv v0 ((b4)[Int.toNat v6]?.getD 0)))>0)) b4 b5).bind fun o5 =>
 if(decide (0<=v6/\v6<(4:Int)))=true then(if(decide (0<=v6/\v6<(List.length b4:Int)))=true then(if((((b4)[Int.toNat v6]?.getD 0) != 0))=true then(some ((Int.tmod v0 ((b4)[Int.toNat v6]?.getD 0)),o5)) else none) else none) else none) else none) else none) else none
theorem E3(n:Nat)(v0:Int)(v3:Bs)(v6:Int)(b4:List (Int))(b5:Ls)(o:Int×Bs)(h:qY n v0 v3 v6 b4 b5=some o)(hQ:To 45 F0 w0 [(0,vi o.1),(3,.str o.2),(4,.elm 4 0 1 0),(5,.elm 5 0 1 0),(6,vi v6)] [(4,138,[rc25 b4]),(5,142,[rc1 b5])] .normal Q):Wp Tryz.prog 45 F0 w0 [(0,vi v0),(3,.str v3),(4,.elm 4 0 1 0),(5,.elm 5 0 1 0),(6,vi v6)] [(4,138,[rc25 b4]),(5,142,[rc1 b5])] (cA (cB (cI (cI (cB (cA (cB (cB (cB (cB (cB (cB (cF Tryz.f126))))))))))))) Q:=by
 unfold qY at h
 refine Wp.block (Wp.seq (Wp.seq ?_))
 obtain⟨hc9,h⟩:=ax h
 obtain⟨hc10,h⟩:=ax h
 obtain⟨hc11,h⟩:=ax h
 refine r0 [0,3,4,5,6,26] [4,5] [(0,vi v0),(3,.str v3),(4,.elm 4 0 1 0),(5,.elm 5 0 1 0),(6,vi v6),(26,vb (decide ((J9 v0 b4 v6)>0)))] [(4,138,[rc25 b4]),(5,142,[rc1 b5])] (ai.cons hc9 (ai.cons hc10 (ai.cons hc11 ai.nil))) (To.ah ?_)
 obtain⟨o5,ho5,h⟩:=au h
 refine kw [0,3,4,5,6,26] [4,5] [(0,vi v0),(3,.str v3),(4,.elm 4 0 1 0),(5,.elm 5 0 1 0),(6,vi v6),(26,vb (decide ((J9 v0 b4 v6)>0)))] [(4,138,[rc25 b4]),(5,142,[rc1 b5])] (EE n v0 v3 v6 (decide ((J9 v0 b4 v6)>0)) b4 b5 o5 ho5 (To.ah ?_))
 obtain⟨hc6,h⟩:=ax h
 obtain⟨hc7,h⟩:=ax h
 obtain⟨hc8,h⟩:=ax h
 refine r0 [0,3,4,5,6] [4,5] [(0,vi (Int.tmod v0 ((b4)[Int.toNat v6]?.getD 0))),(3,.str o5),(4,.elm 4 0 1 0),(5,.elm 5 0 1 0),(6,vi v6)] [(4,138,[rc25 b4]),(5,142,[rc1 b5])] (ai.cons hc6 (ai.cons hc7 (ai.cons hc8 ai.nil))) (To.aR ?_)
 cases h
 exact hQ
def gq(n:Nat)(b4:List (Int))(b5:Ls):Nat->Int->Bs->Int->Option (Bs)
 |0,_,_,_=>none
 |k+1,v0,v3,v6=>if(decide (v6<4))=true then((qY n v0 v3 v6 b4 b5).bind fun o5 =>
 gq n b4 b5 k o5.1 o5.2 (IntKind.wrap .i64 (v6+1)))
 else some v3
theorem EG(n:Nat)(b4:List (Int))(b5:Ls)(k:Nat):∀(v0:Int)(v3:Bs)(v6:Int)(o:Bs),gq n b4 b5 k v0 v3 v6=some o->To 45 F0 w0 [(3,.str o)] [] (.exit 0) Q->WL Tryz.prog 45 F0 w0 [(0,vi v0),(3,.str v3),(4,.elm 4 0 1 0),(5,.elm 5 0 1 0),(6,vi v6)] [(4,138,[rc25 b4]),(5,142,[rc1 b5])] (cI (cI (cB (cA (cB (cB (cB (cB (cB (cB (cF Tryz.f126))))))))))) Q:=by
 induction k with
 |zero=>intro v0 v3 v6 o h;cases h
 |succ k ih =>
  intro v0 v3 v6 o h hQ
  rw[gq] at h
  refine WL.round (Wp.seq (Wp.seq (rg [0,3,4,5,6,18] [4,5] [(0,vi v0),(3,.str v3),(4,.elm 4 0 1 0),(5,.elm 5 0 1 0),(6,vi v6),(18,vb (decide (v6<4)))] [(4,138,[rc25 b4]),(5,142,[rc1 b5])] (To.ah (cn h (fun h=>?_) (fun h=>?_))))))
  ·refine Wp.skip (To.ah (Wp.seq ?_))
   obtain⟨o5,ho5,h⟩:=au h
   refine kw [0,3,4,5,6] [4,5] [(0,vi v0),(3,.str v3),(4,.elm 4 0 1 0),(5,.elm 5 0 1 0),(6,vi v6)] [(4,138,[rc25 b4]),(5,142,[rc1 b5])] (E3 n v0 v3 v6 b4 b5 o5 ho5 (To.ah (rg [0,3,4,5,6] [4,5] [(0,vi o5.1),(3,.str o5.2),(4,.elm 4 0 1 0),(5,.elm 5 0 1 0),(tZ v6)] [(4,138,[rc25 b4]),(5,142,[rc1 b5])] (kt [0,3,4,5,6] [4,5] [(0,vi o5.1),(3,.str o5.2),(4,.elm 4 0 1 0),(5,.elm 5 0 1 0),(tZ v6)] [(4,138,[rc25 b4]),(5,142,[rc1 b5])] (To.again ?_)))))
   exact ih o5.1 o5.2 (IntKind.wrap .i64 (v6+1)) _ h hQ
  ·refine Wp.exit (To.aK (To.aK (kt [3] [] [(3,.str v3)] [] ?_)))
   cases h
   exact hQ
def sr(n:Nat)(a0:Int):Option (Bs) :=
 if(bif (decide (a0<0)) then true else(decide (a0>1099511627776)))=true then(some [])
 else(if(a0==0)=true then(some [48,115])
 else((ox n).bind fun r1 =>
 if(decide (List.length r1=4))=true then((uJ n).bind fun r3 =>
 if(decide (List.length r3=4))=true then((gq n r1 r3 n a0 [] 0).bind fun o5 =>
 some o5) else none) else none))
theorem Jq(n:Nat)(a0:Int)(r:Bs)(h:sr n a0=some r):aJ Tryz.prog 126 [vi a0] (.str r):=by
 unfold sr at h
 refine xo Tryz.f126 rfl fun F0 w0 _=>?_
 refine Wp.seq (rg [0] [] [(0,vi a0)] [] (To.ah (Wp.seq (Wp.seq (rg [0,12] [] [(0,vi a0),(12,vb (bif (decide (a0<0)) then true else(decide (a0>1099511627776))))] [] (To.ah (cn h (fun h=>?_) (fun h=>?_))))))))
 ·refine Wp.seq (rg [2] [] [(2,.str [])] [] (To.ah (Wp.ret (To.aA ?_))))
  cases h
  exact To.done hΓ (by kernel_rfl)
 ·refine Wp.skip (To.ah (Wp.seq (Wp.seq (rg [0,14] [] [(0,vi a0),(14,vb (a0==0))] [] (To.ah (cn h (fun h=>?_) (fun h=>?_)))))))
  ·refine Wp.seq (rg [2] [] [(2,.str [48,115])] [] (To.ah (Wp.ret (To.aA ?_))))
   cases h
   exact To.done hΓ (by kernel_rfl)
  ·refine Wp.skip (To.ah (Wp.seq (rg [0,3] [] [(0,vi a0),(3,.str [])] [] (To.ah (Wp.seq ?_)))))
   obtain⟨r1,hr1,h⟩:=au h
   obtain⟨u2,h⟩:=ax h
   refine rr [] [(0,.arr (α:=Int) 0 vu r1),(2,vY r1)] [] [0,3,4] [4] [(0,vi a0),(3,.str []),(4,.elm 4 0 1 0)] [(4,138,[rc25 r1])] [_,(ck 1 (D.cells (.arr (α:=Int) 0 vu r1)) 4 (vY r1)/\aM (vY r1))] (ai.cons (c1 (xZ n  _ hr1)) (ai.cons (du rfl (of_decide_eq_true u2) rfl (sF _)) ai.nil)) (To.ah (Wp.seq ?_))
   obtain⟨r3,hr3,h⟩:=au h
   obtain⟨u4,h⟩:=ax h
   refine rr [] [(0,.arr (α:=Bs) [] aW r3),(2,ls r3)] [] [0,3,4,5] [4,5] [(0,vi a0),(3,.str []),(4,.elm 4 0 1 0),(5,.elm 5 0 1 0)] [(4,138,[rc25 r1]),(5,142,[rc1 r3])] [_,(ck 1 (D.cells (.arr (α:=Bs) [] aW r3)) 4 (ls r3)/\aM (ls r3))] (ai.cons (c1 (Ig n  _ hr3)) (ai.cons (du rfl (of_decide_eq_true u4) rfl (aI _)) ai.nil)) (To.ah (Wp.seq (Wp.seq (rg [0,3,4,5,6] [4,5] [(0,vi a0),(3,.str []),(4,.elm 4 0 1 0),(5,.elm 5 0 1 0),(6,vi 0)] [(4,138,[rc25 r1]),(5,142,[rc1 r3])] (To.ah (Wp.block ?_))))))
   obtain⟨o5,ho5,h⟩:=au h
   refine kw [0,3,4,5,6] [4,5] [(0,vi a0),(3,.str []),(4,.elm 4 0 1 0),(5,.elm 5 0 1 0),(6,vi 0)] [(4,138,[rc25 r1]),(5,142,[rc1 r3])] (Wp.bE (EG n r1 r3 n a0 [] 0 o5 ho5 (To.aY (To.ah (Wp.seq (rg [2] [] [(2,.str o5)] [] (To.ah (Wp.ret ?_))))))))
   cases h
   exact To.done hΓ (by kernel_rfl)
def pT(n:Nat)(a0:af)(a1:Bs)(a2:Int):Option (Bs×Bool) :=
 (gZ n a0 a1).bind fun r1 =>
 if(!r1.2)=true then(some ([],true))
 else((eX n a0 a1 []).bind fun r2 =>
 (qO n r2.1).bind fun r3 =>
 (sr n r3.1).bind fun r4 =>
 some (r4,(bif (bif r2.2 then(r3.2==0) else false) then(decide (r3.1>=a2)) else false)))
theorem y7(n:Nat)(a0:af)(a1:Bs)(a2:Int)(r:Bs×Bool)(h:pT n a0 a1 a2=some r):aJ Tryz.prog 104 [.agg (qc6 a0),.str a1,vi a2] (.tup [.str r.1,vb r.2]):=by
 unfold pT at h
 refine xo Tryz.f104 rfl fun F0 w0 _=>?_
 refine Wp.seq (rg [1,2,3] [3] [(1,.str a1),(2,vi a2),(3,.own 3 0)] [(3,25,qc6 a0)] (To.ah (Wp.seq ?_)))
 obtain⟨r1,hr1,h⟩:=au h
 refine rc [] 2 [1,2,3,9] [3] [(1,.str a1),(2,vi a2),(3,.own 3 0),(9,vb r1.2)] [(3,25,qc6 a0)] (iO n a0 a1 _ hr1) (To.ah (Wp.seq (Wp.seq (rg [1,2,3,21] [3] [(1,.str a1),(2,vi a2),(3,.own 3 0),(21,vb (!r1.2))] [(3,25,qc6 a0)] (To.ah (cn h (fun h=>?_) (fun h=>?_)))))))
 ·refine Wp.seq (rg [6,7] [] [(6,.str []),(7,vb true)] [] (To.ah (Wp.ret (To.aA ?_))))
  cases h
  exact To.done hΓ (by kernel_rfl)
 ·refine Wp.skip (To.ah (Wp.seq ?_))
  obtain⟨r2,hr2,h⟩:=au h
  refine rc [] 2 [2,10,11] [] [(2,vi a2),(10,.str r2.1),(11,vb r2.2)] [] (fH n a0 a1 [] _ hr2) (To.ah (Wp.seq ?_))
  obtain⟨r3,hr3,h⟩:=au h
  refine rc [] 1 [2,11,12,13] [] [(2,vi a2),(11,vb r2.2),(12,vi r3.1),(13,vi r3.2)] [] (GY n r2.1 _ hr3) (To.ah (Wp.seq ?_))
  obtain⟨r4,hr4,h⟩:=au h
  refine rc [] 1 [6,7] [] [(6,.str r4),(7,vb (bif (bif r2.2 then(r3.2==0) else false) then(decide (r3.1>=a2)) else false))] [] (Jq n r3.1 _ hr4) (To.ah (Wp.ret ?_))
  cases h
  exact To.done hΓ (by kernel_rfl)
def lV(n:Nat)(v5:Bs)(v6:Bool)(v9:Bs)(v43:Bool)(b1:af)(b2:af)(b4:af):Option (Bs) :=
 if v43=true then(some nJ)
 else some v5
theorem Ad(n:Nat)(v5:Bs)(v6:Bool)(v9:Bs)(v43:Bool)(b1:af)(b2:af)(b4:af)(o:Bs)(h:lV n v5 v6 v9 v43 b1 b2 b4=some o)(hQ:To 111 F0 w0 [(1,.own 1 0),(2,.own 2 0),(4,.own 4 0),(5,.str o),(6,vb v6),(9,.str v9)] [(1,25,qc6 b1),(2,25,qc6 b2),(4,25,qc6 b4)] .normal Q):Wp Tryz.prog 111 F0 w0 [(1,.own 1 0),(2,.own 2 0),(4,.own 4 0),(5,.str v5),(6,vb v6),(9,.str v9),(43,vb v43)] [(1,25,qc6 b1),(2,25,qc6 b2),(4,25,qc6 b4)] (cB (cA (cB (cB (cT (cB (cA (cB (cB (cB (cB (cB (cF Tryz.f76))))))))))))) Q:=by
 unfold lV at h
 refine cn h (fun h=>?_) (fun h=>?_)
 ·refine rg [1,2,4,5,6,9] [1,2,4] [(1,.own 1 0),(2,.own 2 0),(4,.own 4 0),(5,.str nJ),(6,vb v6),(9,.str v9)] [(1,25,qc6 b1),(2,25,qc6 b2),(4,25,qc6 b4)] (kt [1,2,4,5,6,9] [1,2,4] [(1,.own 1 0),(2,.own 2 0),(4,.own 4 0),(5,.str nJ),(6,vb v6),(9,.str v9)] [(1,25,qc6 b1),(2,25,qc6 b2),(4,25,qc6 b4)] ?_)
  cases h
  exact hQ
 ·refine Wp.skip (kt [1,2,4,5,6,9] [1,2,4] [(1,.own 1 0),(2,.own 2 0),(4,.own 4 0),(5,.str v5),(6,vb v6),(9,.str v9)] [(1,25,qc6 b1),(2,25,qc6 b2),(4,25,qc6 b4)] ?_)
  cases h
  exact hQ
def lT(n:Nat)(v5:Bs)(v6:Bool)(v33:Bool)(b1:af)(b2:af)(b4:af)(b7:af):Option (Sum (Bs×af×af) (Bool×af)) :=
 if v33=true then((tP n b7).bind fun r4 =>
 if(r4.2==0)=true then(some (.inr (false,(af.mk 0 [] [] []))))
 else((lV n v5 v6 r4.1 (r4.2==2) b1 b2 b4).bind fun o5 =>
 aQ (dA r4.1) fun r6 =>
 (dK n b4 sD r6).bind fun r7 =>
 some (.inl (o5,b2,r7))))
 else(some (.inl (v5,b2,b4)))
theorem zG(n:Nat)(v5:Bs)(v6:Bool)(v33:Bool)(b1:af)(b2:af)(b4:af)(b7:af)(o:Sum (Bs×af×af) (Bool×af))(h:lT n v5 v6 v33 b1 b2 b4 b7=some o)(hQ:(Sum.elim (fun s=>To 111 F0 w0 [(1,.own 1 0),(2,.own 2 0),(4,.own 4 0),(5,.str s.1),(6,vb v6)] [(1,25,qc6 b1),(2,25,qc6 s.2.1),(4,25,qc6 s.2.2)] .normal Q) (fun s=>To 111 F0 w0 [(2,.own 2 0),(3,vb s.1)] [(2,25,qc6 s.2)] .ret Q)) o):Wp Tryz.prog 111 F0 w0 [(1,.own 1 0),(2,.own 2 0),(4,.own 4 0),(5,.str v5),(6,vb v6),(7,.own 7 0),(33,vb v33)] [(1,25,qc6 b1),(2,25,qc6 b2),(4,25,qc6 b4),(7,25,qc6 b7)] (cB (cA (cB (cB (cB (cB (cB (cF Tryz.f76)))))))) Q:=by
 unfold lT at h
 refine cn h (fun h=>?_) (fun h=>?_)
 ·refine Wp.seq ?_
  obtain⟨r4,hr4,h⟩:=au h
  refine rc [] 1 [1,2,4,5,6,9,10] [1,2,4] [(1,.own 1 0),(2,.own 2 0),(4,.own 4 0),(5,.str v5),(6,vb v6),(9,.str r4.1),(10,vi r4.2)] [(1,25,qc6 b1),(2,25,qc6 b2),(4,25,qc6 b4)] (JA n b7 _ hr4) (To.ah (Wp.seq (Wp.seq (rg [1,2,4,5,6,9,10,40] [1,2,4] [(1,.own 1 0),(2,.own 2 0),(4,.own 4 0),(5,.str v5),(6,vb v6),(9,.str r4.1),(10,vi r4.2),(40,vb (r4.2==0))] [(1,25,qc6 b1),(2,25,qc6 b2),(4,25,qc6 b4)] (To.ah (cn h (fun h=>?_) (fun h=>?_)))))))
  ·refine Wp.seq (rg [2,3] [2] [(2,.own 2 0),(3,vb false)] [(2,25,[vi 0,.str [],.val (.slice none 0 0),.val (.slice none 0 0)])] (To.ah (Wp.ret (To.aA (To.weak (K':=[(2,.own 2 0),(3,vb false)]) (L':=[(2,25,[vi 0,.str [],ls [],tn4 []])]) (.cons (.refl _) (.cons (.refl _) .nil)) (.cons (.cons (.refl _) (.cons (.refl _) (.cons (.zero _ _) (.cons (.bu _ _ _) .nil)))) .nil) ?_)))))
   cases h
   exact hQ
  ·refine Wp.skip (To.ah (Wp.seq (Wp.seq (rg [1,2,4,5,6,9,43] [1,2,4] [(1,.own 1 0),(2,.own 2 0),(4,.own 4 0),(5,.str v5),(6,vb v6),(9,.str r4.1),(43,vb (r4.2==2))] [(1,25,qc6 b1),(2,25,qc6 b2),(4,25,qc6 b4)] (To.ah ?_)))))
   obtain⟨o5,ho5,h⟩:=au h
   refine kw [1,2,4,5,6,9,43] [1,2,4] [(1,.own 1 0),(2,.own 2 0),(4,.own 4 0),(5,.str v5),(6,vb v6),(9,.str r4.1),(43,vb (r4.2==2))] [(1,25,qc6 b1),(2,25,qc6 b2),(4,25,qc6 b4)] (Ad n v5 v6 r4.1 (r4.2==2) b1 b2 b4 o5 ho5 (To.ah ?_))
   obtain⟨r6,hr6,h⟩:=aS h
   obtain⟨r7,hr7,h⟩:=au h
   refine Wp.bI hm hΓ [(2,.agg (qc6 r6)),(3,.agg (qc6 r7))] [1,2,4,5,6] [1,2,4] (K':=[(1,.own 1 0),(2,.own 2 0),(4,.own 4 0),(5,.str o5),(6,vb v6)]) (L':=[(1,25,qc6 b1),(2,25,qc6 b2),(4,25,qc6 r7)]) (ob:=[(true=true->CX Tryz.prog 91 [.str r4.1] (.agg (qc6 r6))),(true=true->CX Tryz.prog 30 [.agg (qc6 b4),.str sD,.agg (qc6 r6)] (.agg (qc6 r7)))]) (by kernel_rfl) (ai.cons (fun _=>cx (dM r4.1 _ hr6)) (ai.cons (fun _=>cx (eu n b4 sD r6 _ hr7)) ai.nil)) (kt [1,2,4,5,6] [1,2,4] [(1,.own 1 0),(2,.own 2 0),(4,.own 4 0),(5,.str o5),(6,vb v6)] [(1,25,qc6 b1),(2,25,qc6 b2),(4,25,qc6 r7)] ?_)
   cases h
   exact hQ
 ·refine Wp.skip (kt [1,2,4,5,6] [1,2,4] [(1,.own 1 0),(2,.own 2 0),(4,.own 4 0),(5,.str v5),(6,vb v6)] [(1,25,qc6 b1),(2,25,qc6 b2),(4,25,qc6 b4)] ?_)
  cases h
  exact hQ
def l9(n:Nat)(v11:Bs)(v13:Bs)(v15:Int)(v89:Bool)(b2:af)(b4:af):Option (af) :=
 if v89=true then(aQ (dA v11) fun r10 =>
 (dK n b4 rW r10).bind fun r11 =>
 some r11)
 else some b4
theorem zX(n:Nat)(v11:Bs)(v13:Bs)(v15:Int)(v89:Bool)(b2:af)(b4:af)(o:af)(h:l9 n v11 v13 v15 v89 b2 b4=some o)(hQ:To 111 F0 w0 [(2,.own 2 0),(4,.own 4 0),(13,.str v13),(15,vi v15)] [(2,25,qc6 b2),(4,25,qc6 o)] .normal Q):Wp Tryz.prog 111 F0 w0 [(2,.own 2 0),(4,.own 4 0),(11,.str v11),(13,.str v13),(15,vi v15),(89,vb v89)] [(2,25,qc6 b2),(4,25,qc6 b4)] (cB (cA (cB (cB (cB (cB (cB (cB (cB (cB (cB (cB (cB (cF Tryz.f76)))))))))))))) Q:=by
 unfold l9 at h
 refine cn h (fun h=>?_) (fun h=>?_)
 ·obtain⟨r10,hr10,h⟩:=aS h
  obtain⟨r11,hr11,h⟩:=au h
  refine Wp.bI hm hΓ [(2,.agg (qc6 r10)),(3,.agg (qc6 r11))] [2,4,13,15] [2,4] (K':=[(2,.own 2 0),(4,.own 4 0),(13,.str v13),(15,vi v15)]) (L':=[(2,25,qc6 b2),(4,25,qc6 r11)]) (ob:=[(true=true->CX Tryz.prog 91 [.str v11] (.agg (qc6 r10))),(true=true->CX Tryz.prog 30 [.agg (qc6 b4),.str rW,.agg (qc6 r10)] (.agg (qc6 r11)))]) (by kernel_rfl) (ai.cons (fun _=>cx (dM v11 _ hr10)) (ai.cons (fun _=>cx (eu n b4 rW r10 _ hr11)) ai.nil)) (kt [2,4,13,15] [2,4] [(2,.own 2 0),(4,.own 4 0),(13,.str v13),(15,vi v15)] [(2,25,qc6 b2),(4,25,qc6 r11)] ?_)
  cases h
  exact hQ
 ·refine Wp.skip (kt [2,4,13,15] [2,4] [(2,.own 2 0),(4,.own 4 0),(13,.str v13),(15,vi v15)] [(2,25,qc6 b2),(4,25,qc6 b4)] ?_)
  cases h
  exact hQ
def l7(n:Nat)(v13:Bs)(v15:Int)(v95:Bool)(b2:af)(b4:af):Option (af) :=
 if v95=true then(aQ (dA v13) fun r11 =>
 (dK n b4 rX r11).bind fun r12 =>
 some r12)
 else some b4
theorem Av(n:Nat)(v13:Bs)(v15:Int)(v95:Bool)(b2:af)(b4:af)(o:af)(h:l7 n v13 v15 v95 b2 b4=some o)(hQ:To 111 F0 w0 [(2,.own 2 0),(4,.own 4 0),(15,vi v15)] [(2,25,qc6 b2),(4,25,qc6 o)] .normal Q):Wp Tryz.prog 111 F0 w0 [(2,.own 2 0),(4,.own 4 0),(13,.str v13),(15,vi v15),(95,vb v95)] [(2,25,qc6 b2),(4,25,qc6 b4)] (cB (cA (cB (cB (cB (cB (cB (cB (cB (cB (cB (cB (cB (cB (cF Tryz.f76))))))))))))))) Q:=by
 unfold l7 at h
 refine cn h (fun h=>?_) (fun h=>?_)
 ·obtain⟨r11,hr11,h⟩:=aS h
  obtain⟨r12,hr12,h⟩:=au h
  refine Wp.bI hm hΓ [(2,.agg (qc6 r11)),(3,.agg (qc6 r12))] [2,4,15] [2,4] (K':=[(2,.own 2 0),(4,.own 4 0),(15,vi v15)]) (L':=[(2,25,qc6 b2),(4,25,qc6 r12)]) (ob:=[(true=true->CX Tryz.prog 91 [.str v13] (.agg (qc6 r11))),(true=true->CX Tryz.prog 30 [.agg (qc6 b4),.str rX,.agg (qc6 r11)] (.agg (qc6 r12)))]) (by kernel_rfl) (ai.cons (fun _=>cx (dM v13 _ hr11)) (ai.cons (fun _=>cx (eu n b4 rX r11 _ hr12)) ai.nil)) (kt [2,4,15] [2,4] [(2,.own 2 0),(4,.own 4 0),(15,vi v15)] [(2,25,qc6 b2),(4,25,qc6 r12)] ?_)
  cases h
  exact hQ
 ·refine Wp.skip (kt [2,4,15] [2,4] [(2,.own 2 0),(4,.own 4 0),(15,vi v15)] [(2,25,qc6 b2),(4,25,qc6 b4)] ?_)
  cases h
  exact hQ
def lU(n:Nat)(v15:Int)(v101:Bool)(b2:af)(b4:af):Option (af) :=
 if v101=true then((ft n v15).bind fun r12 =>
 aQ (dA r12) fun r13 =>
 (dK n b4 sR r13).bind fun r14 =>
 some r14)
 else some b4
theorem zQ(n:Nat)(v15:Int)(v101:Bool)(b2:af)(b4:af)(o:af)(h:lU n v15 v101 b2 b4=some o)(hQ:To 111 F0 w0 [(2,.own 2 0),(4,.own 4 0)] [(2,25,qc6 b2),(4,25,qc6 o)] .normal Q):Wp Tryz.prog 111 F0 w0 [(2,.own 2 0),(4,.own 4 0),(15,vi v15),(101,vb v101)] [(2,25,qc6 b2),(4,25,qc6 b4)] (cB (cA (cB (cB (cB (cB (cB (cB (cB (cB (cB (cB (cB (cB (cB (cF Tryz.f76)))))))))))))))) Q:=by
 unfold lU at h
 refine cn h (fun h=>?_) (fun h=>?_)
 ·obtain⟨r12,hr12,h⟩:=au h
  obtain⟨r13,hr13,h⟩:=aS h
  obtain⟨r14,hr14,h⟩:=au h
  refine Wp.bI hm hΓ [(2,.str r12),(3,.agg (qc6 r13)),(4,.agg (qc6 r14))] [2,4] [2,4] (K':=[(2,.own 2 0),(4,.own 4 0)]) (L':=[(2,25,qc6 b2),(4,25,qc6 r14)]) (ob:=[(true=true->CX Tryz.prog 106 [vi v15] (.str r12)),(true=true->CX Tryz.prog 91 [.str r12] (.agg (qc6 r13))),(true=true->CX Tryz.prog 30 [.agg (qc6 b4),.str sR,.agg (qc6 r13)] (.agg (qc6 r14)))]) (by kernel_rfl) (ai.cons (fun _=>cx (og n v15 _ hr12)) (ai.cons (fun _=>cx (dM r12 _ hr13)) (ai.cons (fun _=>cx (eu n b4 sR r13 _ hr14)) ai.nil))) (kt [2,4] [2,4] [(2,.own 2 0),(4,.own 4 0)] [(2,25,qc6 b2),(4,25,qc6 r14)] ?_)
  cases h
  exact hQ
 ·refine Wp.skip (kt [2,4] [2,4] [(2,.own 2 0),(4,.own 4 0)] [(2,25,qc6 b2),(4,25,qc6 b4)] ?_)
  cases h
  exact hQ
def pJ(n:Nat)(a0:af):Option (af×Bool) :=
 (jI n a0 ([sD,rW,rX,sR,mW])).bind fun r1 =>
 if(!r1)=true then(some ((af.mk 0 [] [] []),false))
 else((kQ n a0 mW xm).bind fun r2 =>
 (gZ n a0 sD).bind fun r3 =>
 (lT n r2.1 r2.2 r3.2 a0 (af.mk 0 [] [] []) (af.mk 0 [] [] []) r3.1).bind fun o4 =>
 (Sum.elim (fun o4=>(pT n a0 rW 1).bind fun r5 =>
 (pT n a0 rX 0).bind fun r6 =>
 (lF n a0 sR).bind fun r7 =>
 aQ ((bif (bif (bif (bif (!r2.2) then true else(!r5.2)) then true else(!r6.2)) then true else(!r7.2)) then true else(decide (r7.1>10))):Bool) fun x8 =>
 if x8=true then(some ((af.mk 0 [] [] []),false))
 else(if(o4.1==nJ)=true then(aQ (dA nJ) fun r9 =>
 some ((af.mk 3 [] ([mW]) [r9]),true))
 else((l9 n r5.1 r6.1 r7.1 (!(r5.1==[])) o4.2.1 o4.2.2).bind fun o10 =>
 (l7 n r6.1 r7.1 (!(r6.1==[])) o4.2.1 o10).bind fun o11 =>
 (lU n r7.1 (decide (r7.1>0)) o4.2.1 o11).bind fun o12 =>
 (eO n o12 true).bind fun r13 =>
 some (r13.1,r13.2)))) (fun o4=>some (o4.2,o4.1))) o4)
theorem FG(n:Nat)(a0:af)(r:af×Bool)(h:pJ n a0=some r):aJ Tryz.prog 76 [.agg (qc6 a0)] (.tup [.agg (qc6 r.1),vb r.2]):=by
 unfold pJ at h
 refine xo Tryz.f76 rfl fun F0 w0 _=>?_
 refine Wp.seq (rg [1,2] [1,2] [(1,.own 1 0),(2,.own 2 0)] [(1,25,qc6 a0),(2,25,[vi 0,.str [],.val (.slice none 0 0),.val (.slice none 0 0)])] (To.ah (Wp.seq (Wp.seq ?_))))
 obtain⟨r1,hr1,h⟩:=au h
 refine rr [(2,[18])] [(1,ls ([sD,rW,rX,sR,mW])),(2,vb r1)] [] [1,2,20] [1,2] [(1,.own 1 0),(2,.own 2 0),(20,vb (!r1))] [(1,25,qc6 a0),(2,25,[vi 0,.str [],.val (.slice none 0 0),.val (.slice none 0 0)])] [(ck 1 [.str sD,.str rW,.str rX,.str sR,.str mW] 5 (ls ([sD,rW,rX,sR,mW]))/\aM (ls ([sD,rW,rX,sR,mW]))),_] (ai.cons (du (by kernel_rfl) rfl (by kernel_rfl) (aI _)) (ai.cons (c1 (oa n a0 ([sD,rW,rX,sR,mW]) _ hr1)) ai.nil)) (To.ah (cn h (fun h=>?_) (fun h=>?_)))
 ·refine Wp.seq (rg [2,3] [2] [(2,.own 2 0),(3,vb false)] [(2,25,[vi 0,.str [],.val (.slice none 0 0),.val (.slice none 0 0)])] (To.ah (Wp.ret (To.aA (To.weak (K':=[(2,.own 2 0),(3,vb false)]) (L':=[(2,25,[vi 0,.str [],ls [],tn4 []])]) (.cons (.refl _) (.cons (.refl _) .nil)) (.cons (.cons (.refl _) (.cons (.refl _) (.cons (.zero _ _) (.cons (.bu _ _ _) .nil)))) .nil) ?_)))))
  cases h
  exact To.done hΓ (by kernel_rfl)
 ·refine Wp.skip (To.ah (Wp.seq (rg [1,2,4] [1,2,4] [(1,.own 1 0),(2,.own 2 0),(4,.own 4 0)] [(1,25,qc6 a0),(2,25,[vi 0,.str [],.val (.slice none 0 0),.val (.slice none 0 0)]),(4,25,[vi 0,.str [],.val (.slice none 0 0),.val (.slice none 0 0)])] (To.ah (Wp.seq ?_)))))
  obtain⟨r2,hr2,h⟩:=au h
  refine rc [] 1 [1,2,4,5,6] [1,2,4] [(1,.own 1 0),(2,.own 2 0),(4,.own 4 0),(5,.str r2.1),(6,vb r2.2)] [(1,25,qc6 a0),(2,25,[vi 0,.str [],.val (.slice none 0 0),.val (.slice none 0 0)]),(4,25,[vi 0,.str [],.val (.slice none 0 0),.val (.slice none 0 0)])] (qb n a0 mW xm _ hr2) (To.ah (Wp.seq ?_))
  obtain⟨r3,hr3,h⟩:=au h
  refine rc [] 1 [1,2,4,5,6,7,8] [1,2,4,7] [(1,.own 1 0),(2,.own 2 0),(4,.own 4 0),(5,.str r2.1),(6,vb r2.2),(7,.own 7 0),(8,vb r3.2)] [(1,25,qc6 a0),(2,25,[vi 0,.str [],.val (.slice none 0 0),.val (.slice none 0 0)]),(4,25,[vi 0,.str [],.val (.slice none 0 0),.val (.slice none 0 0)]),(7,25,qc6 r3.1)] (iO n a0 sD _ hr3) (To.ah (Wp.seq (Wp.seq (rg [1,2,4,5,6,7,33] [1,2,4,7] [(1,.own 1 0),(2,.own 2 0),(4,.own 4 0),(5,.str r2.1),(6,vb r2.2),(7,.own 7 0),(33,vb r3.2)] [(1,25,qc6 a0),(2,25,[vi 0,.str [],.val (.slice none 0 0),.val (.slice none 0 0)]),(4,25,[vi 0,.str [],.val (.slice none 0 0),.val (.slice none 0 0)]),(7,25,qc6 r3.1)] (To.ah ?_)))))
  obtain⟨o4,ho4,h⟩:=au h
  refine kw [1,2,4,5,6,7,33] [1,2,4,7] [(1,.own 1 0),(2,.own 2 0),(4,.own 4 0),(5,.str r2.1),(6,vb r2.2),(7,.own 7 0),(33,vb r3.2)] [(1,25,qc6 a0),(2,25,[vi 0,.str [],.val (.slice none 0 0),.val (.slice none 0 0)]),(4,25,[vi 0,.str [],.val (.slice none 0 0),.val (.slice none 0 0)]),(7,25,qc6 r3.1)] (Wp.weak (K':=[(1,.own 1 0),(2,.own 2 0),(4,.own 4 0),(5,.str r2.1),(6,vb r2.2),(7,.own 7 0),(33,vb r3.2)]) (L':=[(1,25,qc6 a0),(2,25,[vi 0,.str [],ls [],tn4 []]),(4,25,[vi 0,.str [],ls [],tn4 []]),(7,25,qc6 r3.1)]) (.cons (.refl _) (.cons (.refl _) (.cons (.refl _) (.cons (.refl _) (.cons (.refl _) (.cons (.refl _) (.cons (.refl _) .nil))))))) (.cons (.cons (.refl _) (.cons (.refl _) (.cons (.refl _) (.cons (.refl _) .nil)))) (.cons (.cons (.refl _) (.cons (.refl _) (.cons (.zero _ _) (.cons (.bu _ _ _) .nil)))) (.cons (.cons (.refl _) (.cons (.refl _) (.cons (.zero _ _) (.cons (.bu _ _ _) .nil)))) (.cons (.cons (.refl _) (.cons (.refl _) (.cons (.refl _) (.cons (.refl _) .nil)))) .nil)))) (zG n r2.1 r2.2 r3.2 a0 zx3 zx3 r3.1 o4 ho4 ?_))
  rcases o4 with o4|o4
  ·replace h:=cv h
   refine To.ah (Wp.seq ?_)
   obtain⟨r5,hr5,h⟩:=au h
   refine rc [] 1 [1,2,4,5,6,11,12] [1,2,4] [(1,.own 1 0),(2,.own 2 0),(4,.own 4 0),(5,.str o4.1),(6,vb r2.2),(11,.str r5.1),(12,vb r5.2)] [(1,25,qc6 a0),(2,25,qc6 o4.2.1),(4,25,qc6 o4.2.2)] (y7 n a0 rW 1 _ hr5) (To.ah (Wp.seq ?_))
   obtain⟨r6,hr6,h⟩:=au h
   refine rc [] 1 [1,2,4,5,6,11,12,13,14] [1,2,4] [(1,.own 1 0),(2,.own 2 0),(4,.own 4 0),(5,.str o4.1),(6,vb r2.2),(11,.str r5.1),(12,vb r5.2),(13,.str r6.1),(14,vb r6.2)] [(1,25,qc6 a0),(2,25,qc6 o4.2.1),(4,25,qc6 o4.2.2)] (y7 n a0 rX 0 _ hr6) (To.ah (Wp.seq ?_))
   obtain⟨r7,hr7,h⟩:=au h
   refine rc [] 1 [2,4,5,6,11,12,13,14,15,16] [2,4] [(2,.own 2 0),(4,.own 4 0),(5,.str o4.1),(6,vb r2.2),(11,.str r5.1),(12,vb r5.2),(13,.str r6.1),(14,vb r6.2),(15,vi r7.1),(16,vb r7.2)] [(2,25,qc6 o4.2.1),(4,25,qc6 o4.2.2)] (sO n a0 sR _ hr7) (To.ah (Wp.seq (Wp.seq ?_)))
   obtain⟨x8,hx8,h⟩:=aS h
   refine rg [2,4,5,11,13,15,80] [2,4] [(2,.own 2 0),(4,.own 4 0),(5,.str o4.1),(11,.str r5.1),(13,.str r6.1),(15,vi r7.1),(80,vb (bif (bif (bif (bif (!r2.2) then true else(!r5.2)) then true else(!r6.2)) then true else(!r7.2)) then true else(decide (r7.1>10))))] [(2,25,qc6 o4.2.1),(4,25,qc6 o4.2.2)] (To.eq (K':=[(2,.own 2 0),(4,.own 4 0),(5,.str o4.1),(11,.str r5.1),(13,.str r6.1),(15,vi r7.1),(80,vb x8)]) (L':=[(2,25,qc6 o4.2.1),(4,25,qc6 o4.2.2)]) (by cases hx8;rfl) (by cases hx8;rfl) (To.ah (cn h (fun h=>?_) (fun h=>?_))))
   ·refine Wp.seq (rg [2,3] [2] [(2,.own 2 0),(3,vb false)] [(2,25,[vi 0,.str [],.val (.slice none 0 0),.val (.slice none 0 0)])] (To.ah (Wp.ret (To.aA (To.weak (K':=[(2,.own 2 0),(3,vb false)]) (L':=[(2,25,[vi 0,.str [],ls [],tn4 []])]) (.cons (.refl _) (.cons (.refl _) .nil)) (.cons (.cons (.refl _) (.cons (.refl _) (.cons (.zero _ _) (.cons (.bu _ _ _) .nil)))) .nil) ?_)))))
    cases h
    exact To.done hΓ (by kernel_rfl)
   ·refine Wp.skip (To.ah (Wp.seq (Wp.seq (rg [2,4,11,13,15,83] [2,4] [(2,.own 2 0),(4,.own 4 0),(11,.str r5.1),(13,.str r6.1),(15,vi r7.1),(83,vb (o4.1==nJ))] [(2,25,qc6 o4.2.1),(4,25,qc6 o4.2.2)] (To.ah (cn h (fun h=>?_) (fun h=>?_)))))))
    ·refine Wp.seq ?_
     obtain⟨r9,hr9,h⟩:=aS h
     refine rr [] [(0,ls ([mW])),(1,.agg (qc6 r9)),(2,rs8 [r9])] [] [2,3] [2,84,86] [(2,.own 2 0),(3,vb true)] [(2,25,[vi 3,.str [],.row 84,.row 86]),(84,9,[rc1 ([mW])]),(86,25,[rc9 [r9]])] [(ck 1 [.str mW] 1 (ls ([mW]))/\aM (ls ([mW]))),_,(ck 4 (qc6 r9) 1 (rs8 [r9])/\aM (rs8 [r9]))] (ai.cons (du (by kernel_rfl) rfl (by kernel_rfl) (aI _)) (ai.cons (c1 (dM nJ _ hr9)) (ai.cons (du (by kernel_rfl) rfl (by kernel_rfl) (bg _)) ai.nil))) (To.ah (Wp.ret (To.aA (To.pre (St.settle (ks:=[84,86]) (kk:=[2,3]) (kl:=[2,84,86]) (K':=[(2,.own 2 0),(3,vb true)]) (L':=[(2,25,[vi 3,.str [],.row 84,.row 86]),(84,9,[rc2 ([mW])]),(86,25,[iY [r9]])]) (by kernel_rfl)) (To.pre (St.uS [2] (L':=[(2,25,[vi 3,.str [],ls ([mW]),rs8 [r9]]),(84,9,[rc2 ([mW])]),(86,25,[iY [r9]])]) (by kernel_rfl)) (To.weak (K':=[(2,.own 2 0),(3,vb true)]) (L':=[(2,25,[vi 3,.str [],ls ([mW]),tn4 [r9]]),(84,9,[rc2 ([mW])]),(86,25,[iY [r9]])]) (.cons (.refl _) (.cons (.refl _) .nil)) (.cons (.cons (.refl _) (.cons (.refl _) (.cons (.refl _) (.cons (.close _ _ _ _) .nil)))) (.cons (.cons (.refl _) .nil) (.cons (.cons (.refl _) .nil) .nil))) ?_))))))
     cases h
     exact To.done hΓ (by kernel_rfl)
    ·refine Wp.skip (To.ah (Wp.seq (Wp.seq (rg [2,4,11,13,15,89] [2,4] [(2,.own 2 0),(4,.own 4 0),(11,.str r5.1),(13,.str r6.1),(15,vi r7.1),(89,vb (!(r5.1==[])))] [(2,25,qc6 o4.2.1),(4,25,qc6 o4.2.2)] (To.ah ?_)))))
     obtain⟨o10,ho10,h⟩:=au h
     refine kw [2,4,11,13,15,89] [2,4] [(2,.own 2 0),(4,.own 4 0),(11,.str r5.1),(13,.str r6.1),(15,vi r7.1),(89,vb (!(r5.1==[])))] [(2,25,qc6 o4.2.1),(4,25,qc6 o4.2.2)] (zX n r5.1 r6.1 r7.1 (!(r5.1==[])) o4.2.1 o4.2.2 o10 ho10 (To.ah (Wp.seq (Wp.seq (rg [2,4,13,15,95] [2,4] [(2,.own 2 0),(4,.own 4 0),(13,.str r6.1),(15,vi r7.1),(95,vb (!(r6.1==[])))] [(2,25,qc6 o4.2.1),(4,25,qc6 o10)] (To.ah ?_))))))
     obtain⟨o11,ho11,h⟩:=au h
     refine kw [2,4,13,15,95] [2,4] [(2,.own 2 0),(4,.own 4 0),(13,.str r6.1),(15,vi r7.1),(95,vb (!(r6.1==[])))] [(2,25,qc6 o4.2.1),(4,25,qc6 o10)] (Av n r6.1 r7.1 (!(r6.1==[])) o4.2.1 o10 o11 ho11 (To.ah (Wp.seq (Wp.seq (rg [2,4,15,101] [2,4] [(2,.own 2 0),(4,.own 4 0),(15,vi r7.1),(101,vb (decide (r7.1>0)))] [(2,25,qc6 o4.2.1),(4,25,qc6 o11)] (To.ah ?_))))))
     obtain⟨o12,ho12,h⟩:=au h
     refine kw [2,4,15,101] [2,4] [(2,.own 2 0),(4,.own 4 0),(15,vi r7.1),(101,vb (decide (r7.1>0)))] [(2,25,qc6 o4.2.1),(4,25,qc6 o11)] (zQ n r7.1 (decide (r7.1>0)) o4.2.1 o11 o12 ho12 (To.ah (Wp.seq ?_)))
     obtain⟨r13,hr13,h⟩:=au h
     refine rc [] 1 [2,3] [2] [(2,.own 2 0),(3,vb r13.2)] [(2,25,qc6 r13.1)] (jK n o12 true _ hr13) (To.ah (Wp.ret ?_))
     cases h
     exact To.done hΓ (by kernel_rfl)
  ·replace h:=cy h
   refine To.aA ?_
   cases h
   exact To.done hΓ (by kernel_rfl)
def qS(n:Nat)(a0:af)(a1:Int):Option (af×Bool) :=
 if(decide (a1<5))=true then((u9 n a0 a1).bind fun r1 =>
 some (r1.1,r1.2))
 else(if(a1==5)=true then((qD n a0).bind fun r2 =>
 some (r2.1,r2.2))
 else(if(bif (a1==6) then true else(a1==7))=true then((qG n a0 (a1==6)).bind fun r3 =>
 some (r3.1,r3.2))
 else(if(a1==8)=true then((rN n a0).bind fun r4 =>
 some (r4.1,r4.2))
 else(if(a1==9)=true then((qM n a0).bind fun r5 =>
 some (r5.1,r5.2))
 else(if(a1==10)=true then((pI n a0).bind fun r6 =>
 some (r6.1,r6.2))
 else(if(a1==11)=true then((sM n a0).bind fun r7 =>
 some (r7.1,r7.2))
 else(if(a1==12)=true then((nP n a0).bind fun r8 =>
 some (r8.1,r8.2))
 else((pJ n a0).bind fun r9 =>
 some (r9.1,r9.2)))))))))
theorem Hy(n:Nat)(a0:af)(a1:Int)(r:af×Bool)(h:qS n a0 a1=some r):aJ Tryz.prog 62 [.agg (qc6 a0),vi a1] (.tup [.agg (qc6 r.1),vb r.2]):=by
 unfold qS at h
 refine xo Tryz.f62 rfl fun F0 w0 _=>?_
 refine Wp.seq (rg [1,2,4] [2,4] [(1,vi a1),(2,.own 2 0),(4,.own 4 0)] [(2,25,qc6 a0),(4,25,[vi 0,.str [],.val (.slice none 0 0),.val (.slice none 0 0)])] (To.ah (Wp.seq (Wp.seq (rg [1,2,4,7] [2,4] [(1,vi a1),(2,.own 2 0),(4,.own 4 0),(7,vb (decide (a1<5)))] [(2,25,qc6 a0),(4,25,[vi 0,.str [],.val (.slice none 0 0),.val (.slice none 0 0)])] (To.ah (cn h (fun h=>?_) (fun h=>?_))))))))
 ·refine Wp.seq ?_
  obtain⟨r1,hr1,h⟩:=au h
  refine rc [] 2 [4,5] [4] [(4,.own 4 0),(5,vb r1.2)] [(4,25,qc6 r1.1)] (J6 n a0 a1 _ hr1) (To.ah (Wp.ret (To.aA ?_)))
  cases h
  exact To.done hΓ (by kernel_rfl)
 ·refine Wp.skip (To.ah (Wp.seq (Wp.seq (rg [1,2,4,14] [2,4] [(1,vi a1),(2,.own 2 0),(4,.own 4 0),(14,vb (a1==5))] [(2,25,qc6 a0),(4,25,[vi 0,.str [],.val (.slice none 0 0),.val (.slice none 0 0)])] (To.ah (cn h (fun h=>?_) (fun h=>?_)))))))
  ·refine Wp.seq ?_
   obtain⟨r2,hr2,h⟩:=au h
   refine rc [] 1 [4,5] [4] [(4,.own 4 0),(5,vb r2.2)] [(4,25,qc6 r2.1)] (HY n a0 _ hr2) (To.ah (Wp.ret (To.aA ?_)))
   cases h
   exact To.done hΓ (by kernel_rfl)
  ·refine Wp.skip (To.ah (Wp.seq (Wp.seq (rg [1,2,4,24] [2,4] [(1,vi a1),(2,.own 2 0),(4,.own 4 0),(24,vb (bif (a1==6) then true else(a1==7)))] [(2,25,qc6 a0),(4,25,[vi 0,.str [],.val (.slice none 0 0),.val (.slice none 0 0)])] (To.ah (cn h (fun h=>?_) (fun h=>?_)))))))
   ·refine Wp.seq ?_
    obtain⟨r3,hr3,h⟩:=au h
    refine rc [] 3 [4,5] [4] [(4,.own 4 0),(5,vb r3.2)] [(4,25,qc6 r3.1)] (Ic n a0 (a1==6) _ hr3) (To.ah (Wp.ret (To.aA ?_)))
    cases h
    exact To.done hΓ (by kernel_rfl)
   ·refine Wp.skip (To.ah (Wp.seq (Wp.seq (rg [1,2,4,32] [2,4] [(1,vi a1),(2,.own 2 0),(4,.own 4 0),(32,vb (a1==8))] [(2,25,qc6 a0),(4,25,[vi 0,.str [],.val (.slice none 0 0),.val (.slice none 0 0)])] (To.ah (cn h (fun h=>?_) (fun h=>?_)))))))
    ·refine Wp.seq ?_
     obtain⟨r4,hr4,h⟩:=au h
     refine rc [] 1 [4,5] [4] [(4,.own 4 0),(5,vb r4.2)] [(4,25,qc6 r4.1)] (AY n a0 _ hr4) (To.ah (Wp.ret (To.aA ?_)))
     cases h
     exact To.done hΓ (by kernel_rfl)
    ·refine Wp.skip (To.ah (Wp.seq (Wp.seq (rg [1,2,4,38] [2,4] [(1,vi a1),(2,.own 2 0),(4,.own 4 0),(38,vb (a1==9))] [(2,25,qc6 a0),(4,25,[vi 0,.str [],.val (.slice none 0 0),.val (.slice none 0 0)])] (To.ah (cn h (fun h=>?_) (fun h=>?_)))))))
     ·refine Wp.seq ?_
      obtain⟨r5,hr5,h⟩:=au h
      refine rc [] 1 [4,5] [4] [(4,.own 4 0),(5,vb r5.2)] [(4,25,qc6 r5.1)] (GU n a0 _ hr5) (To.ah (Wp.ret (To.aA ?_)))
      cases h
      exact To.done hΓ (by kernel_rfl)
     ·refine Wp.skip (To.ah (Wp.seq (Wp.seq (rg [1,2,4,44] [2,4] [(1,vi a1),(2,.own 2 0),(4,.own 4 0),(44,vb (a1==10))] [(2,25,qc6 a0),(4,25,[vi 0,.str [],.val (.slice none 0 0),.val (.slice none 0 0)])] (To.ah (cn h (fun h=>?_) (fun h=>?_)))))))
      ·refine Wp.seq ?_
       obtain⟨r6,hr6,h⟩:=au h
       refine rc [] 1 [4,5] [4] [(4,.own 4 0),(5,vb r6.2)] [(4,25,qc6 r6.1)] (Gu n a0 _ hr6) (To.ah (Wp.ret (To.aA ?_)))
       cases h
       exact To.done hΓ (by kernel_rfl)
      ·refine Wp.skip (To.ah (Wp.seq (Wp.seq (rg [1,2,4,50] [2,4] [(1,vi a1),(2,.own 2 0),(4,.own 4 0),(50,vb (a1==11))] [(2,25,qc6 a0),(4,25,[vi 0,.str [],.val (.slice none 0 0),.val (.slice none 0 0)])] (To.ah (cn h (fun h=>?_) (fun h=>?_)))))))
       ·refine Wp.seq ?_
        obtain⟨r7,hr7,h⟩:=au h
        refine rc [] 1 [4,5] [4] [(4,.own 4 0),(5,vb r7.2)] [(4,25,qc6 r7.1)] (JB n a0 _ hr7) (To.ah (Wp.ret (To.aA ?_)))
        cases h
        exact To.done hΓ (by kernel_rfl)
       ·refine Wp.skip (To.ah (Wp.seq (Wp.seq (rg [2,4,56] [2,4] [(2,.own 2 0),(4,.own 4 0),(56,vb (a1==12))] [(2,25,qc6 a0),(4,25,[vi 0,.str [],.val (.slice none 0 0),.val (.slice none 0 0)])] (To.ah (cn h (fun h=>?_) (fun h=>?_)))))))
        ·refine Wp.seq ?_
         obtain⟨r8,hr8,h⟩:=au h
         refine rc [] 1 [4,5] [4] [(4,.own 4 0),(5,vb r8.2)] [(4,25,qc6 r8.1)] (Eu n a0 _ hr8) (To.ah (Wp.ret (To.aA ?_)))
         cases h
         exact To.done hΓ (by kernel_rfl)
        ·refine Wp.skip (To.ah (Wp.seq ?_))
         obtain⟨r9,hr9,h⟩:=au h
         refine rc [] 1 [4,5] [4] [(4,.own 4 0),(5,vb r9.2)] [(4,25,qc6 r9.1)] (FG n a0 _ hr9) (To.ah (Wp.ret ?_))
         cases h
         exact To.done hΓ (by kernel_rfl)
def lD(n:Nat)(v4:Int)(b1:af)(b2:aB)(b3:af):Option (Sum (aB×af) (aB)) :=
 if(decide (0<=v4/\v4<(List.length b1.ak:Int)))=true then((lQ n ((b1.ak)[Int.toNat v4]?.getD [])).bind fun r1 =>
 if r1=true then(some (.inl (b2,b3)))
 else(if(decide (0<=v4/\v4<(List.length b1.ak:Int)))=true then((pg n ((b1.ak)[Int.toNat v4]?.getD [])).bind fun r2 =>
 if(decide (r2<0))=true then(if(decide (0<=v4/\v4<(List.length b1.ak:Int)))=true then(some (.inr (aB.mk (af.mk 0 [] [] []) ((b1.ak)[Int.toNat v4]?.getD []) 10))) else none)
 else(if(decide (0<=v4/\v4<(List.length b1.aj:Int)))=true then(if((((b1.aj)[Int.toNat v4]?.getD (af.mk 0 [] [] [])).av)==0)=true then(some (.inl (b2,b3)))
 else(if(decide (0<=v4/\v4<(List.length b1.aj:Int)))=true then((qS n ((b1.aj)[Int.toNat v4]?.getD (af.mk 0 [] [] [])) r2).bind fun r4 =>
 if(!r4.2)=true then(if(decide (0<=v4/\v4<(List.length b1.ak:Int)))=true then(some (.inr (aB.mk (af.mk 0 [] [] []) ((b1.ak)[Int.toNat v4]?.getD []) 10))) else none)
 else(if(decide (0<=v4/\v4<(List.length b1.ak:Int)))=true then((dK n b3 ((b1.ak)[Int.toNat v4]?.getD []) r4.1).bind fun r6 =>
 some (.inl (b2,r6))) else none)) else none)) else none)) else none)) else none
abbrev qq(x:aB):List D:=[vi x.f_N.av,.str x.f_N.aC,ls x.f_N.ak,tn4 x.f_N.aj,.str x.lH,vi x.f_E]
abbrev QL(x0:af)(x1:Int):Nat×Nat×List D:=(2,31,[vi 0,.str [],.val (.slice none 0 0),.val (.slice none 0 0),.str (df x0 x1),vi 10])
theorem zt(n:Nat)(v4:Int)(b1:af)(b2:aB)(b3:af)(o:Sum (aB×af) (aB))(h:lD n v4 b1 b2 b3=some o)(hQ:(Sum.elim (fun s=>To 81 F0 w0 [(1,.own 1 0),(2,.own 2 0),(3,.own 3 0),(4,vi v4)] [(1,25,qc6 b1),(2,31,qq s.1),(3,25,qc6 s.2)] .normal Q) (fun s=>To 81 F0 w0 [(2,.own 2 0)] [(2,31,qq s)] .ret Q)) o):Wp Tryz.prog 81 F0 w0 [(1,.own 1 0),(2,.own 2 0),(3,.own 3 0),(4,vi v4)] [(1,25,qc6 b1),(2,31,(ay b2)),(3,25,qc6 b3)] (cA (cB (cI (cI (cB (cA (cB (cB (cB (cF Tryz.f46)))))))))) Q:=by
 unfold lD at h
 refine Wp.block (Wp.seq (Wp.seq ?_))
 obtain⟨hc11,h⟩:=ax h
 obtain⟨r1,hr1,h⟩:=au h
 refine rr [] [(5,vb r1)] [] [1,2,3,4,30] [1,2,3] [(1,.own 1 0),(2,.own 2 0),(3,.own 3 0),(4,vi v4),(30,vb r1)] [(1,25,qc6 b1),(2,31,(ay b2)),(3,25,qc6 b3)] [_,_] (ai.cons hc11 (ai.cons (c1 (wA n (df b1 v4) _ hr1)) ai.nil)) (To.ah (cn h (fun h=>?_) (fun h=>?_)))
 ·refine Wp.exit (To.aK (To.aY (kt [1,2,3,4] [1,2,3] [(1,.own 1 0),(2,.own 2 0),(3,.own 3 0),(4,vi v4)] [(1,25,qc6 b1),(2,31,(ay b2)),(3,25,qc6 b3)] ?_)))
  cases h
  exact hQ
 ·refine Wp.skip (To.ah (Wp.seq ?_))
  obtain⟨hc10,h⟩:=ax h
  obtain⟨r2,hr2,h⟩:=au h
  refine rr [] [(5,vi r2)] [] [1,2,3,4,5] [1,2,3] [(1,.own 1 0),(2,.own 2 0),(3,.own 3 0),(4,vi v4),(5,vi r2)] [(1,25,qc6 b1),(2,31,(ay b2)),(3,25,qc6 b3)] [_,_] (ai.cons hc10 (ai.cons (c1 (Fp n (df b1 v4) _ hr2)) ai.nil)) (To.ah (Wp.seq (Wp.seq (rg [1,2,3,4,5,38] [1,2,3] [(1,.own 1 0),(2,.own 2 0),(3,.own 3 0),(4,vi v4),(5,vi r2),(38,vb (decide (r2<0)))] [(1,25,qc6 b1),(2,31,(ay b2)),(3,25,qc6 b3)] (To.ah (cn h (fun h=>?_) (fun h=>?_)))))))
  ·refine Wp.seq ?_
   obtain⟨hc3,h⟩:=ax h
   refine r0 [2] [2] [(2,.own 2 0)] [(QL b1 v4)] (ai.cons hc3 ai.nil) (To.ah (Wp.ret (To.aA (To.aP (To.weak (K':=[(2,.own 2 0)]) (L':=[(2,31,[vi 0,.str [],ls [],tn4 [],.str (df b1 v4),vi 10])]) (.cons (.refl _) .nil) (.cons (.cons (.refl _) (.cons (.refl _) (.cons (.zero _ _) (.cons (.bu _ _ _) (.cons (.refl _) (.cons (.refl _) .nil)))))) .nil) ?_)))))
   cases h
   exact hQ
  ·refine Wp.skip (To.ah (Wp.seq (Wp.seq ?_)))
   obtain⟨hc9,h⟩:=ax h
   refine r0 [1,2,3,4,5,51] [1,2,3] [(1,.own 1 0),(2,.own 2 0),(3,.own 3 0),(4,vi v4),(5,vi r2),(51,vb (((ex5 b1 v4).av)==0))] [(1,25,qc6 b1),(2,31,(ay b2)),(3,25,qc6 b3)] (ai.cons hc9 ai.nil) (To.ah (cn h (fun h=>?_) (fun h=>?_)))
   ·refine Wp.exit (To.aK (To.aY (kt [1,2,3,4] [1,2,3] [(1,.own 1 0),(2,.own 2 0),(3,.own 3 0),(4,vi v4)] [(1,25,qc6 b1),(2,31,(ay b2)),(3,25,qc6 b3)] ?_)))
    cases h
    exact hQ
   ·refine Wp.skip (To.ah (Wp.seq ?_))
    obtain⟨hc8,h⟩:=ax h
    obtain⟨r4,hr4,h⟩:=au h
    refine rr [] [(6,.tup [.agg (qc6 r4.1),vb r4.2])] [] [1,2,3,4,6,7] [1,2,3,6] [(1,.own 1 0),(2,.own 2 0),(3,.own 3 0),(4,vi v4),(6,.own 6 0),(7,vb r4.2)] [(1,25,qc6 b1),(2,31,(ay b2)),(3,25,qc6 b3),(6,25,qc6 r4.1)] [_,_] (ai.cons hc8 (ai.cons (c1 (Hy n (ex5 b1 v4) r2 _ hr4)) ai.nil)) (To.ah (Wp.seq (Wp.seq (rg [1,2,3,4,6,63] [1,2,3,6] [(1,.own 1 0),(2,.own 2 0),(3,.own 3 0),(4,vi v4),(6,.own 6 0),(63,vb (!r4.2))] [(1,25,qc6 b1),(2,31,(ay b2)),(3,25,qc6 b3),(6,25,qc6 r4.1)] (To.ah (cn h (fun h=>?_) (fun h=>?_)))))))
    ·refine Wp.seq ?_
     obtain⟨hc5,h⟩:=ax h
     refine r0 [2] [2] [(2,.own 2 0)] [(QL b1 v4)] (ai.cons hc5 ai.nil) (To.ah (Wp.ret (To.aA (To.aP (To.weak (K':=[(2,.own 2 0)]) (L':=[(2,31,[vi 0,.str [],ls [],tn4 [],.str (df b1 v4),vi 10])]) (.cons (.refl _) .nil) (.cons (.cons (.refl _) (.cons (.refl _) (.cons (.zero _ _) (.cons (.bu _ _ _) (.cons (.refl _) (.cons (.refl _) .nil)))))) .nil) ?_)))))
     cases h
     exact hQ
    ·refine Wp.skip (To.ah ?_)
     obtain⟨hc7,h⟩:=ax h
     obtain⟨r6,hr6,h⟩:=au h
     refine Wp.bI hm hΓ [(7,.agg (qc6 r6))] [1,2,3,4] [1,2,3] (K':=[(1,.own 1 0),(2,.own 2 0),(3,.own 3 0),(4,vi v4)]) (L':=[(1,25,qc6 b1),(2,31,(ay b2)),(3,25,qc6 r6)]) (ob:=[(Ip v4 b1)=true,(true=true->CX Tryz.prog 30 [.agg (qc6 b3),.str (df b1 v4),.agg (qc6 r4.1)] (.agg (qc6 r6)))]) (by kernel_rfl) (ai.cons hc7 (ai.cons (fun _=>cx (eu n b3 (df b1 v4) r4.1 _ hr6)) ai.nil)) (To.aR (kt [1,2,3,4] [1,2,3] [(1,.own 1 0),(2,.own 2 0),(3,.own 3 0),(4,vi v4)] [(1,25,qc6 b1),(2,31,(ay b2)),(3,25,qc6 r6)] ?_))
     cases h
     exact hQ
def dP(n:Nat)(b1:af):Nat->Int->aB->af->Option (Sum (aB×af) (aB))
 |0,_,_,_=>none
 |k+1,v4,b2,b3=>if(decide (v4<(List.length b1.ak:Int)))=true then((lD n v4 b1 b2 b3).bind fun o1 =>
 (Sum.elim (fun o1=>dP n b1 k (IntKind.wrap .i64 (v4+1)) o1.1 o1.2) (fun o1=>some (.inr o1))) o1)
 else(some (.inl (b2,b3)))
theorem zo(n:Nat)(b1:af)(k:Nat):∀(v4:Int)(b2:aB)(b3:af)(o:Sum (aB×af) (aB)),dP n b1 k v4 b2 b3=some o->(Sum.elim (fun s=>To 81 F0 w0 [(2,.own 2 0),(3,.own 3 0)] [(2,31,qq s.1),(3,25,qc6 s.2)] (.exit 0) Q) (fun s=>To 81 F0 w0 [(2,.own 2 0)] [(2,31,qq s)] .ret Q)) o->WL Tryz.prog 81 F0 w0 [(1,.own 1 0),(2,.own 2 0),(3,.own 3 0),(4,vi v4)] [(1,25,qc6 b1),(2,31,(ay b2)),(3,25,qc6 b3)] (cI (cI (cB (cA (cB (cB (cB (cF Tryz.f46)))))))) Q:=by
 induction k with
 |zero=>intro v4 b2 b3 o h;cases h
 |succ k ih =>
  intro v4 b2 b3 o h hQ
  rw[dP] at h
  refine WL.round (Wp.seq (Wp.seq (rg [1,2,3,4,22] [1,2,3] [(1,.own 1 0),(2,.own 2 0),(3,.own 3 0),(4,vi v4),(22,vb (yF v4 b1))] [(1,25,qc6 b1),(2,31,(ay b2)),(3,25,qc6 b3)] (To.ah (cn h (fun h=>?_) (fun h=>?_))))))
  ·refine Wp.skip (To.ah (Wp.seq ?_))
   obtain⟨o1,ho1,h⟩:=au h
   refine kw [1,2,3,4] [1,2,3] [(1,.own 1 0),(2,.own 2 0),(3,.own 3 0),(4,vi v4)] [(1,25,qc6 b1),(2,31,(ay b2)),(3,25,qc6 b3)] (zt n v4 b1 b2 b3 o1 ho1 ?_)
   rcases o1 with o1|o1
   ·replace h:=cv h
    refine To.ah (rg [1,2,3,4] [1,2,3] [(1,.own 1 0),(2,.own 2 0),(3,.own 3 0),(lL v4)] [(1,25,qc6 b1),(2,31,(ay o1.1)),(3,25,qc6 o1.2)] (kt [1,2,3,4] [1,2,3] [(1,.own 1 0),(2,.own 2 0),(3,.own 3 0),(lL v4)] [(1,25,qc6 b1),(2,31,(ay o1.1)),(3,25,qc6 o1.2)] (To.again ?_)))
    exact ih (IntKind.wrap .i64 (v4+1)) o1.1 o1.2 _ h hQ
   ·replace h:=cy h
    refine To.aA (To.aA (kt [2] [2] [(2,.own 2 0)] [(2,31,(ay o1))] ?_))
    cases h
    exact hQ
  ·refine Wp.exit (To.aK (To.aK (kt [2,3] [2,3] [(2,.own 2 0),(3,.own 3 0)] [(2,31,(ay b2)),(3,25,qc6 b3)] ?_)))
   cases h
   exact hQ
def nO(n:Nat)(a0:af):Option (aB) :=
 if(bif (a0.av != 0) then(a0.av != 3) else false)=true then(some (aB.mk (af.mk 0 [] [] []) [] 10))
 else((dP n a0 n 0 (aB.mk (af.mk 0 [] [] []) [] 0) (af.mk 3 [] [] [])).bind fun o1 =>
 (Sum.elim (fun o1=>(dH n o1.2).bind fun r2 =>
 some (aB.mk r2 [] 0)) (fun o1=>some o1)) o1)
theorem EA(n:Nat)(a0:af)(r:aB)(h:nO n a0=some r):aJ Tryz.prog 46 [.agg (qc6 a0)] (.agg (qq r)):=by
 unfold nO at h
 refine xo Tryz.f46 rfl fun F0 w0 _=>?_
 refine Wp.seq (rg [1,2] [1,2] [(1,.own 1 0),(2,.own 2 0)] [(1,25,qc6 a0),(2,31,[vi 0,.str [],.val (.slice none 0 0),.val (.slice none 0 0),.str [],vi 0])] (To.ah (Wp.seq (Wp.seq (rg [1,2,15] [1,2] [(1,.own 1 0),(2,.own 2 0),(15,vb (RJ a0))] [(1,25,qc6 a0),(2,31,[vi 0,.str [],.val (.slice none 0 0),.val (.slice none 0 0),.str [],vi 0])] (To.ah (cn h (fun h=>?_) (fun h=>?_))))))))
 ·refine Wp.seq (rg [2] [2] [(2,.own 2 0)] [(2,31,[vi 0,.str [],.val (.slice none 0 0),.val (.slice none 0 0),.str [],vi 10])] (To.ah (Wp.ret (To.aA (To.weak (K':=[(2,.own 2 0)]) (L':=[(2,31,[vi 0,.str [],ls [],tn4 [],.str [],vi 10])]) (.cons (.refl _) .nil) (.cons (.cons (.refl _) (.cons (.refl _) (.cons (.zero _ _) (.cons (.bu _ _ _) (.cons (.refl _) (.cons (.refl _) .nil)))))) .nil) ?_)))))
  cases h
  exact To.done hΓ (by kernel_rfl)
 ·refine Wp.skip (To.ah (Wp.seq (rg [1,2,3] [1,2,3] [(1,.own 1 0),(2,.own 2 0),(3,.own 3 0)] [(1,25,qc6 a0),(2,31,[vi 0,.str [],.val (.slice none 0 0),.val (.slice none 0 0),.str [],vi 0]),(3,25,[vi 3,.str [],.val (.slice none 0 0),.val (.slice none 0 0)])] (To.ah (Wp.seq (Wp.seq (rg [1,2,3,4] [1,2,3] [(1,.own 1 0),(2,.own 2 0),(3,.own 3 0),(4,vi 0)] [(1,25,qc6 a0),(2,31,[vi 0,.str [],.val (.slice none 0 0),.val (.slice none 0 0),.str [],vi 0]),(3,25,[vi 3,.str [],.val (.slice none 0 0),.val (.slice none 0 0)])] (To.ah (Wp.block ?_)))))))))
  obtain⟨o1,ho1,h⟩:=au h
  refine kw [1,2,3,4] [1,2,3] [(1,.own 1 0),(2,.own 2 0),(3,.own 3 0),(4,vi 0)] [(1,25,qc6 a0),(2,31,[vi 0,.str [],.val (.slice none 0 0),.val (.slice none 0 0),.str [],vi 0]),(3,25,[vi 3,.str [],.val (.slice none 0 0),.val (.slice none 0 0)])] (Wp.weak (K':=[(1,.own 1 0),(2,.own 2 0),(3,.own 3 0),(4,vi 0)]) (L':=[(1,25,qc6 a0),(2,31,[vi 0,.str [],ls [],tn4 [],.str [],vi 0]),(3,25,[vi 3,.str [],ls [],tn4 []])]) (.cons (.refl _) (.cons (.refl _) (.cons (.refl _) (.cons (.refl _) .nil)))) (.cons (.cons (.refl _) (.cons (.refl _) (.cons (.refl _) (.cons (.refl _) .nil)))) (.cons (.cons (.refl _) (.cons (.refl _) (.cons (.zero _ _) (.cons (.bu _ _ _) (.cons (.refl _) (.cons (.refl _) .nil)))))) (.cons (.cons (.refl _) (.cons (.refl _) (.cons (.zero _ _) (.cons (.bu _ _ _) .nil)))) .nil))) (Wp.bE (zo n a0 n 0 (aB.mk zx3 [] 0) (af.mk 3 [] [] []) o1 ho1 ?_)))
  rcases o1 with o1|o1
  ·replace h:=cv h
   refine To.aY (To.ah (Wp.seq ?_))
   obtain⟨r2,hr2,h⟩:=au h
   refine rc [] 1 [2] [2] [(2,.own 2 0)] [(2,31,[vi r2.av,.str r2.aC,ls r2.ak,tn4 r2.aj,.str [],vi 0])] (oN n o1.2 _ hr2) (To.ah (Wp.ret ?_))
   cases h
   exact To.done hΓ (by kernel_rfl)
  ·replace h:=cy h
   refine To.aP (To.aA ?_)
   cases h
   exact To.done hΓ (by kernel_rfl)
def kE(n:Nat)(v5:Bs)(v38:Bool)(b2:aB):Option (Bs) :=
 if v38=true then(some jV)
 else some v5
theorem yN(n:Nat)(v5:Bs)(v38:Bool)(b2:aB)(o:Bs)(h:kE n v5 v38 b2=some o)(hQ:To 85 F0 w0 [(2,.own 2 0),(5,.str o)] [(2,31,(ay b2))] .normal Q):Wp Tryz.prog 85 F0 w0 [(2,.own 2 0),(5,.str v5),(38,vb v38)] [(2,31,(ay b2))] (cB (cA (cB (cT (cB (cA (cI (cA (cB (cI (cI (cB (cA (cB (cB (cB (cF Tryz.f27))))))))))))))))) Q:=by
 unfold kE at h
 refine cn h (fun h=>?_) (fun h=>?_)
 ·refine rg [2,5] [2] [(2,.own 2 0),(5,.str jV)] [(2,31,(ay b2))] (kt [2,5] [2] [(2,.own 2 0),(5,.str jV)] [(2,31,(ay b2))] ?_)
  cases h
  exact hQ
 ·refine Wp.skip (kt [2,5] [2] [(2,.own 2 0),(5,.str v5)] [(2,31,(ay b2))] ?_)
  cases h
  exact hQ
def kD(n:Nat)(v7:Bs)(v58:Bool)(b2:aB)(b6:aB):Option (Bs) :=
 if v58=true then(if(decide (((List.length v7+List.length ([46]:Bs):Nat):Int)<=9223372036854775807))=true then(if(decide (((List.length (v7++[46])+List.length b6.lH:Nat):Int)<=9223372036854775807))=true then(some ((v7++[46])++b6.lH)) else none) else none)
 else some v7
theorem yJ(n:Nat)(v7:Bs)(v58:Bool)(b2:aB)(b6:aB)(o:Bs)(h:kD n v7 v58 b2 b6=some o)(hQ:To 85 F0 w0 [(2,.own 2 0),(6,.own 6 0),(7,.str o)] [(2,31,(ay b2)),(6,31,(ay b6))] .normal Q):Wp Tryz.prog 85 F0 w0 [(2,.own 2 0),(6,.own 6 0),(7,.str v7),(58,vb v58)] [(2,31,(ay b2)),(6,31,(ay b6))] (cB (cA (cB (cT (cB (cA (cB (cB (cI (cA (cB (cI (cI (cB (cA (cB (cB (cB (cF Tryz.f27))))))))))))))))))) Q:=by
 unfold kD at h
 refine cn h (fun h=>?_) (fun h=>?_)
 ·obtain⟨hc7,h⟩:=ax h
  obtain⟨hc8,h⟩:=ax h
  refine r0 [2,6,7] [2,6] [(2,.own 2 0),(6,.own 6 0),(7,.str ((v7++[46])++b6.lH))] [(2,31,(ay b2)),(6,31,(ay b6))] (ai.cons hc7 (ai.cons hc8 ai.nil)) (kt [2,6,7] [2,6] [(2,.own 2 0),(6,.own 6 0),(7,.str ((v7++[46])++b6.lH))] [(2,31,(ay b2)),(6,31,(ay b6))] ?_)
  cases h
  exact hQ
 ·refine Wp.skip (kt [2,6,7] [2,6] [(2,.own 2 0),(6,.own 6 0),(7,.str v7)] [(2,31,(ay b2)),(6,31,(ay b6))] ?_)
  cases h
  exact hQ
def cu(n:Nat)(b1:af):Nat->Int->aB->af->Option (Sum (aB×af) (aB))
 |0,_,_,_=>none
 |k+1,v4,b2,b3=>if(decide (v4<(List.length b1.ak:Int)))=true then(if(decide (0<=v4/\v4<(List.length b1.ak:Int)))=true then((il n ((b1.ak)[Int.toNat v4]?.getD [])).bind fun r1 =>
 if(!r1)=true then(if(decide (0<=v4/\v4<(List.length b1.ak:Int)))=true then(if(decide (((List.length (uC:Bs)+List.length ((b1.ak)[Int.toNat v4]?.getD []):Nat):Int)<=9223372036854775807))=true then(if(decide (0<=v4/\v4<(List.length b1.ak:Int)))=true then((kE n ((uC:Bs)++((b1.ak)[Int.toNat v4]?.getD [])) (((b1.ak)[Int.toNat v4]?.getD [])==[]) b2).bind fun o2 =>
 some (.inr (aB.mk (af.mk 0 [] [] []) o2 10))) else none) else none) else none)
 else(if(decide (0<=v4/\v4<(List.length b1.aj:Int)))=true then((nO n ((b1.aj)[Int.toNat v4]?.getD (af.mk 0 [] [] []))).bind fun r6 =>
 if(r6.f_E != 0)=true then(if(decide (0<=v4/\v4<(List.length b1.ak:Int)))=true then(if(decide (((List.length (uC:Bs)+List.length ((b1.ak)[Int.toNat v4]?.getD []):Nat):Int)<=9223372036854775807))=true then((kD n ((uC:Bs)++((b1.ak)[Int.toNat v4]?.getD [])) (!(r6.lH==[])) b2 r6).bind fun o7 =>
 some (.inr (aB.mk (af.mk 0 [] [] []) o7 r6.f_E))) else none) else none)
 else(if(decide (0<=v4/\v4<(List.length b1.ak:Int)))=true then((dK n b3 ((b1.ak)[Int.toNat v4]?.getD []) r6.f_N).bind fun r10 =>
 cu n b1 k (IntKind.wrap .i64 (v4+1)) b2 r10) else none)) else none)) else none)
 else(some (.inl (b2,b3)))
abbrev An(x0:af)(x1:Int):=((uC:Bs)++(df x0 x1))
theorem yv(n:Nat)(b1:af)(k:Nat):∀(v4:Int)(b2:aB)(b3:af)(o:Sum (aB×af) (aB)),cu n b1 k v4 b2 b3=some o->(Sum.elim (fun s=>To 85 F0 w0 [(2,.own 2 0),(3,.own 3 0)] [(2,31,qq s.1),(3,25,qc6 s.2)] (.exit 0) Q) (fun s=>To 85 F0 w0 [(2,.own 2 0)] [(2,31,qq s)] .ret Q)) o->WL Tryz.prog 85 F0 w0 [(1,.own 1 0),(2,.own 2 0),(3,.own 3 0),(4,vi v4)] [(1,25,qc6 b1),(2,31,(ay b2)),(3,25,qc6 b3)] (cI (cI (cB (cA (cB (cB (cB (cF Tryz.f27)))))))) Q:=by
 induction k with
 |zero=>intro v4 b2 b3 o h;cases h
 |succ k ih =>
  intro v4 b2 b3 o h hQ
  rw[cu] at h
  refine WL.round (Wp.seq (Wp.seq (rg [1,2,3,4,17] [1,2,3] [(1,.own 1 0),(2,.own 2 0),(3,.own 3 0),(4,vi v4),(17,vb (yF v4 b1))] [(1,25,qc6 b1),(2,31,(ay b2)),(3,25,qc6 b3)] (To.ah (cn h (fun h=>?_) (fun h=>?_))))))
  ·refine Wp.skip (To.ah (Wp.seq (Wp.block (Wp.seq (Wp.seq ?_)))))
   obtain⟨hc13,h⟩:=ax h
   obtain⟨r1,hr1,h⟩:=au h
   refine rr [] [(5,vb r1)] [] [1,2,3,4,26] [1,2,3] [(1,.own 1 0),(2,.own 2 0),(3,.own 3 0),(4,vi v4),(26,vb (!r1))] [(1,25,qc6 b1),(2,31,(ay b2)),(3,25,qc6 b3)] [_,_] (ai.cons hc13 (ai.cons (c1 (jW n (df b1 v4) _ hr1)) ai.nil)) (To.ah (cn h (fun h=>?_) (fun h=>?_)))
   ·refine Wp.seq ?_
    obtain⟨hc4,h⟩:=ax h
    obtain⟨hc5,h⟩:=ax h
    refine r0 [1,2,4,5] [1,2] [(1,.own 1 0),(2,.own 2 0),(4,vi v4),(5,.str (An b1 v4))] [(1,25,qc6 b1),(2,31,(ay b2))] (ai.cons hc4 (ai.cons hc5 ai.nil)) (To.ah (Wp.seq (Wp.seq ?_)))
    obtain⟨hc3,h⟩:=ax h
    refine r0 [2,5,38] [2] [(2,.own 2 0),(5,.str (An b1 v4)),(38,vb ((df b1 v4)==[]))] [(2,31,(ay b2))] (ai.cons hc3 ai.nil) (To.ah ?_)
    obtain⟨o2,ho2,h⟩:=au h
    refine kw [2,5,38] [2] [(2,.own 2 0),(5,.str (An b1 v4)),(38,vb ((df b1 v4)==[]))] [(2,31,(ay b2))] (yN n (An b1 v4) ((df b1 v4)==[]) b2 o2 ho2 (To.ah (Wp.seq (rg [2] [2] [(2,.own 2 0)] [(2,31,[vi 0,.str [],.val (.slice none 0 0),.val (.slice none 0 0),.str o2,vi 10])] (To.ah (Wp.ret (To.aA (To.aP (To.aA (To.aA ?_))))))))))
    refine To.weak (K':=[(2,.own 2 0)]) (L':=[(2,31,[vi 0,.str [],ls [],tn4 [],.str o2,vi 10])]) (.cons (.refl _) .nil) (.cons (.cons (.refl _) (.cons (.refl _) (.cons (.zero _ _) (.cons (.bu _ _ _) (.cons (.refl _) (.cons (.refl _) .nil)))))) .nil) ?_
    cases h
    exact hQ
   ·refine Wp.skip (To.ah (Wp.seq ?_))
    obtain⟨hc12,h⟩:=ax h
    obtain⟨r6,hr6,h⟩:=au h
    refine rr [] [(5,.agg (qq r6))] [] [1,2,3,4,6] [1,2,3,6] [(1,.own 1 0),(2,.own 2 0),(3,.own 3 0),(4,vi v4),(6,.own 6 0)] [(1,25,qc6 b1),(2,31,(ay b2)),(3,25,qc6 b3),(6,31,(ay r6))] [_,_] (ai.cons hc12 (ai.cons (c1 (EA n (ex5 b1 v4) _ hr6)) ai.nil)) (To.ah (Wp.seq (Wp.seq (rg [1,2,3,4,6,49] [1,2,3,6] [(1,.own 1 0),(2,.own 2 0),(3,.own 3 0),(4,vi v4),(6,.own 6 0),(49,vb (r6.f_E != 0))] [(1,25,qc6 b1),(2,31,(ay b2)),(3,25,qc6 b3),(6,31,(ay r6))] (To.ah (cn h (fun h=>?_) (fun h=>?_)))))))
    ·refine Wp.seq ?_
     obtain⟨hc8,h⟩:=ax h
     obtain⟨hc9,h⟩:=ax h
     refine r0 [2,6,7] [2,6] [(2,.own 2 0),(6,.own 6 0),(7,.str (An b1 v4))] [(2,31,(ay b2)),(6,31,(ay r6))] (ai.cons hc8 (ai.cons hc9 ai.nil)) (To.ah (Wp.seq (Wp.seq (rg [2,6,7,58] [2,6] [(2,.own 2 0),(6,.own 6 0),(7,.str (An b1 v4)),(58,vb (!(r6.lH==[])))] [(2,31,(ay b2)),(6,31,(ay r6))] (To.ah ?_)))))
     obtain⟨o7,ho7,h⟩:=au h
     refine kw [2,6,7,58] [2,6] [(2,.own 2 0),(6,.own 6 0),(7,.str (An b1 v4)),(58,vb (!(r6.lH==[])))] [(2,31,(ay b2)),(6,31,(ay r6))] (yJ n (An b1 v4) (!(r6.lH==[])) b2 r6 o7 ho7 (To.ah (Wp.seq (rg [2] [2] [(2,.own 2 0)] [(2,31,[vi 0,.str [],.val (.slice none 0 0),.val (.slice none 0 0),.str o7,vi r6.f_E])] (To.ah (Wp.ret (To.aA (To.aP (To.aA (To.aA ?_))))))))))
     refine To.weak (K':=[(2,.own 2 0)]) (L':=[(2,31,[vi 0,.str [],ls [],tn4 [],.str o7,vi r6.f_E])]) (.cons (.refl _) .nil) (.cons (.cons (.refl _) (.cons (.refl _) (.cons (.zero _ _) (.cons (.bu _ _ _) (.cons (.refl _) (.cons (.refl _) .nil)))))) .nil) ?_
     cases h
     exact hQ
    ·refine Wp.skip (To.ah ?_)
     obtain⟨hc11,h⟩:=ax h
     obtain⟨r10,hr10,h⟩:=au h
     refine Wp.bI hm hΓ [(8,.agg (qc6 r10))] [1,2,3,4] [1,2,3] (K':=[(1,.own 1 0),(2,.own 2 0),(3,.own 3 0),(4,vi v4)]) (L':=[(1,25,qc6 b1),(2,31,(ay b2)),(3,25,qc6 r10)]) (ob:=[(Ip v4 b1)=true,(true=true->CX Tryz.prog 30 [.agg (qc6 b3),.str (df b1 v4),.agg [vi r6.f_N.av,.str r6.f_N.aC,ls r6.f_N.ak,tn4 r6.f_N.aj]] (.agg (qc6 r10)))]) (by kernel_rfl) (ai.cons hc11 (ai.cons (fun _=>cx (eu n b3 (df b1 v4) r6.f_N _ hr10)) ai.nil)) (To.aR (To.ah (rg [1,2,3,4] [1,2,3] [(1,.own 1 0),(2,.own 2 0),(3,.own 3 0),(lL v4)] [(1,25,qc6 b1),(2,31,(ay b2)),(3,25,qc6 r10)] (kt [1,2,3,4] [1,2,3] [(1,.own 1 0),(2,.own 2 0),(3,.own 3 0),(lL v4)] [(1,25,qc6 b1),(2,31,(ay b2)),(3,25,qc6 r10)] (To.again ?_)))))
     exact ih (IntKind.wrap .i64 (v4+1)) b2 r10 _ h hQ
  ·refine Wp.exit (To.aK (To.aK (kt [2,3] [2,3] [(2,.own 2 0),(3,.own 3 0)] [(2,31,(ay b2)),(3,25,qc6 b3)] ?_)))
   cases h
   exact hQ
def mZ(n:Nat)(a0:af):Option (aB) :=
 if(a0.av != 3)=true then(some (aB.mk (af.mk 0 [] [] []) jV 10))
 else((cu n a0 n 0 (aB.mk (af.mk 0 [] [] []) [] 0) (af.mk 3 [] [] [])).bind fun o1 =>
 (Sum.elim (fun o1=>if(decide ((List.length o1.2.ak:Int)>16))=true then(some (aB.mk (af.mk 0 [] [] []) jV 9))
 else((dH n o1.2).bind fun r2 =>
 some (aB.mk r2 [] 0))) (fun o1=>some o1)) o1)
theorem CJ(n:Nat)(a0:af)(r:aB)(h:mZ n a0=some r):aJ Tryz.prog 27 [.agg (qc6 a0)] (.agg (qq r)):=by
 unfold mZ at h
 refine xo Tryz.f27 rfl fun F0 w0 _=>?_
 refine Wp.seq (rg [1,2] [1,2] [(1,.own 1 0),(2,.own 2 0)] [(1,25,qc6 a0),(2,31,[vi 0,.str [],.val (.slice none 0 0),.val (.slice none 0 0),.str [],vi 0])] (To.ah (Wp.seq (Wp.seq (rg [1,2,10] [1,2] [(1,.own 1 0),(2,.own 2 0),(10,vb (a0.av != 3))] [(1,25,qc6 a0),(2,31,[vi 0,.str [],.val (.slice none 0 0),.val (.slice none 0 0),.str [],vi 0])] (To.ah (cn h (fun h=>?_) (fun h=>?_))))))))
 ·refine Wp.seq (rg [2] [2] [(2,.own 2 0)] [(2,31,[vi 0,.str [],.val (.slice none 0 0),.val (.slice none 0 0),.str jV,vi 10])] (To.ah (Wp.ret (To.aA (To.weak (K':=[(2,.own 2 0)]) (L':=[(2,31,[vi 0,.str [],ls [],tn4 [],.str jV,vi 10])]) (.cons (.refl _) .nil) (.cons (.cons (.refl _) (.cons (.refl _) (.cons (.zero _ _) (.cons (.bu _ _ _) (.cons (.refl _) (.cons (.refl _) .nil)))))) .nil) ?_)))))
  cases h
  exact To.done hΓ (by kernel_rfl)
 ·refine Wp.skip (To.ah (Wp.seq (rg [1,2,3] [1,2,3] [(1,.own 1 0),(2,.own 2 0),(3,.own 3 0)] [(1,25,qc6 a0),(2,31,[vi 0,.str [],.val (.slice none 0 0),.val (.slice none 0 0),.str [],vi 0]),(3,25,[vi 3,.str [],.val (.slice none 0 0),.val (.slice none 0 0)])] (To.ah (Wp.seq (Wp.seq (rg [1,2,3,4] [1,2,3] [(1,.own 1 0),(2,.own 2 0),(3,.own 3 0),(4,vi 0)] [(1,25,qc6 a0),(2,31,[vi 0,.str [],.val (.slice none 0 0),.val (.slice none 0 0),.str [],vi 0]),(3,25,[vi 3,.str [],.val (.slice none 0 0),.val (.slice none 0 0)])] (To.ah (Wp.block ?_)))))))))
  obtain⟨o1,ho1,h⟩:=au h
  refine kw [1,2,3,4] [1,2,3] [(1,.own 1 0),(2,.own 2 0),(3,.own 3 0),(4,vi 0)] [(1,25,qc6 a0),(2,31,[vi 0,.str [],.val (.slice none 0 0),.val (.slice none 0 0),.str [],vi 0]),(3,25,[vi 3,.str [],.val (.slice none 0 0),.val (.slice none 0 0)])] (Wp.weak (K':=[(1,.own 1 0),(2,.own 2 0),(3,.own 3 0),(4,vi 0)]) (L':=[(1,25,qc6 a0),(2,31,[vi 0,.str [],ls [],tn4 [],.str [],vi 0]),(3,25,[vi 3,.str [],ls [],tn4 []])]) (.cons (.refl _) (.cons (.refl _) (.cons (.refl _) (.cons (.refl _) .nil)))) (.cons (.cons (.refl _) (.cons (.refl _) (.cons (.refl _) (.cons (.refl _) .nil)))) (.cons (.cons (.refl _) (.cons (.refl _) (.cons (.zero _ _) (.cons (.bu _ _ _) (.cons (.refl _) (.cons (.refl _) .nil)))))) (.cons (.cons (.refl _) (.cons (.refl _) (.cons (.zero _ _) (.cons (.bu _ _ _) .nil)))) .nil))) (Wp.bE (yv n a0 n 0 (aB.mk zx3 [] 0) (af.mk 3 [] [] []) o1 ho1 ?_)))
  rcases o1 with o1|o1
  ·replace h:=cv h
   refine To.aY (To.ah (Wp.seq (Wp.seq (rg [2,3,80] [2,3] [(2,.own 2 0),(3,.own 3 0),(80,vb (decide ((List.length o1.2.ak:Int)>16)))] [(2,31,(ay o1.1)),(3,25,qc6 o1.2)] (To.ah (cn h (fun h=>?_) (fun h=>?_)))))))
   ·refine Wp.seq (rg [2] [2] [(2,.own 2 0)] [(2,31,[vi 0,.str [],.val (.slice none 0 0),.val (.slice none 0 0),.str jV,vi 9])] (To.ah (Wp.ret (To.aA (To.weak (K':=[(2,.own 2 0)]) (L':=[(2,31,[vi 0,.str [],ls [],tn4 [],.str jV,vi 9])]) (.cons (.refl _) .nil) (.cons (.cons (.refl _) (.cons (.refl _) (.cons (.zero _ _) (.cons (.bu _ _ _) (.cons (.refl _) (.cons (.refl _) .nil)))))) .nil) ?_)))))
    cases h
    exact To.done hΓ (by kernel_rfl)
   ·refine Wp.skip (To.ah (Wp.seq ?_))
    obtain⟨r2,hr2,h⟩:=au h
    refine rc [] 1 [2] [2] [(2,.own 2 0)] [(2,31,[vi r2.av,.str r2.aC,ls r2.ak,tn4 r2.aj,.str [],vi 0])] (oN n o1.2 _ hr2) (To.ah (Wp.ret ?_))
    cases h
    exact To.done hΓ (by kernel_rfl)
  ·replace h:=cy h
   refine To.aP (To.aA ?_)
   cases h
   exact To.done hΓ (by kernel_rfl)
def ic(n:Nat)(v0:Bs):Nat->Int->Option (Sum (Unit) (Bool))
 |0,_=>none
 |k+1,v3=>if(decide (v3<(List.length v0:Int)))=true then(if(decide (0<=v3/\v3<(List.length v0:Int)))=true then(aQ ((bif (bif (bif ((bH (((v0)[Int.toNat v3]?.getD 0).toNat:Int))==0) then true else((bH (((v0)[Int.toNat v3]?.getD 0).toNat:Int))==2)) then true else((bH (((v0)[Int.toNat v3]?.getD 0).toNat:Int))==6)) then true else(bif (v3==0) then(decide ((bH (((v0)[Int.toNat v3]?.getD 0).toNat:Int))>3)) else false)):Bool) fun x1 =>
 if x1=true then(some (.inr false))
 else(ic n v0 k (IntKind.wrap .i64 (v3+1)))) else none)
 else(some (.inl ()))
theorem zq(n:Nat)(v0:Bs)(k:Nat):∀(v3:Int)(o:Sum (Unit) (Bool)),ic n v0 k v3=some o->(Sum.elim (fun s=>To 41 F0 w0 [] [] (.exit 0) Q) (fun s=>To 41 F0 w0 [(2,vb s)] [] .ret Q)) o->WL Tryz.prog 41 F0 w0 [(0,.str v0),(3,vi v3)] [] (cI (cI (cB (cA (cB (cB (cF Tryz.f28))))))) Q:=by
 induction k with
 |zero=>intro v3 o h;cases h
 |succ k ih =>
  intro v3 o h hQ
  rw[ic] at h
  refine WL.round (Wp.seq (Wp.seq (rg [0,3,16] [] [(0,.str v0),(3,vi v3),(16,vb (mj v3 v0))] [] (To.ah (cn h (fun h=>?_) (fun h=>?_))))))
  ·refine Wp.skip (To.ah (Wp.seq (Wp.block (Wp.seq ?_))))
   obtain⟨hc2,h⟩:=ax h
   refine rr [] [(3,vi (bH (bK v0 v3)))] [] [0,3,4] [] [(0,.str v0),(3,vi v3),(4,vi (bH (bK v0 v3)))] [] [_,_] (ai.cons hc2 (ai.cons (c1 (qX (bK v0 v3) _ rfl)) ai.nil)) (To.ah (Wp.seq ?_))
   obtain⟨x1,hx1,h⟩:=aS h
   refine rg [0,3,40] [] [(0,.str v0),(3,vi v3),(40,vb (bif (bif (bif ((bH (bK v0 v3))==0) then true else((bH (bK v0 v3))==2)) then true else((bH (bK v0 v3))==6)) then true else(bif (v3==0) then(decide ((bH (bK v0 v3))>3)) else false)))] [] (To.eq (K':=[(0,.str v0),(3,vi v3),(40,vb x1)]) (L':=[]) (by cases hx1;rfl) (by cases hx1;rfl) (To.ah (cn h (fun h=>?_) (fun h=>?_))))
   ·refine Wp.seq (rg [2] [] [(2,vb false)] [] (To.ah (Wp.ret (To.aP (To.aA (To.aA ?_))))))
    cases h
    exact hQ
   ·refine Wp.skip (To.aR (To.ah (rg [0,3] [] [(0,.str v0),(uz v3)] [] (kt [0,3] [] [(0,.str v0),(uz v3)] [] (To.again ?_)))))
    exact ih (IntKind.wrap .i64 (v3+1)) _ h hQ
  ·refine Wp.exit (To.aK (To.aK (kt [] [] [] [] ?_)))
   cases h
   exact hQ
def od(n:Nat)(a0:Bs):Option (Bool) :=
 if(bif (decide ((List.length a0:Int)<1)) then true else(decide ((List.length a0:Int)>24)))=true then some false
 else((ic n a0 n 0).bind fun o1 =>
 (Sum.elim (fun o1=>some true) (fun o1=>some o1)) o1)
theorem Ec(n:Nat)(a0:Bs)(r:Bool)(h:od n a0=some r):aJ Tryz.prog 28 [.str a0] (vb r):=by
 unfold od at h
 refine xo Tryz.f28 rfl fun F0 w0 _=>?_
 refine Wp.seq (rg [0] [] [(0,.str a0)] [] (To.ah (Wp.seq (Wp.seq (rg [0,12] [] [(0,.str a0),(12,vb (Rx a0))] [] (To.ah (cn h (fun h=>?_) (fun h=>?_))))))))
 ·refine Wp.seq (rg [2] [] [(2,vb false)] [] (To.ah (Wp.ret (To.aA ?_))))
  cases h
  exact To.done hΓ (by kernel_rfl)
 ·refine Wp.skip (To.ah (Wp.seq (Wp.seq (rg [0,3] [] [(0,.str a0),(3,vi 0)] [] (To.ah (Wp.block ?_))))))
  obtain⟨o1,ho1,h⟩:=au h
  refine kw [0,3] [] [(0,.str a0),(3,vi 0)] [] (Wp.bE (zq n a0 n 0 o1 ho1 ?_))
  rcases o1 with o1|o1
  ·replace h:=cv h
   refine To.aY (To.ah (Wp.seq (rg [2] [] [(2,vb true)] [] (To.ah (Wp.ret ?_)))))
   cases h
   exact To.done hΓ (by kernel_rfl)
  ·replace h:=cy h
   refine To.aP (To.aA ?_)
   cases h
   exact To.done hΓ (by kernel_rfl)
def jY(n:Nat)(a0:af):Option (Bool) :=
 (dD n a0 1 2000).bind fun r1 =>
 some (decide (r1>=0))
theorem uf(n:Nat)(a0:af)(r:Bool)(h:jY n a0=some r):aJ Tryz.prog 20 [.agg (qc6 a0)] (vb r):=by
 unfold jY at h
 refine xo Tryz.f20 rfl fun F0 w0 _=>?_
 refine Wp.seq (rg [1] [1] [(1,.own 1 0)] [(1,25,qc6 a0)] (To.ah (Wp.seq ?_)))
 obtain⟨r1,hr1,h⟩:=au h
 refine rc [] 1 [2] [] [(2,vb (decide (r1>=0)))] [] (yZ n a0 1 2000 _ hr1) (To.ah (Wp.ret ?_))
 cases h
 exact To.done hΓ (by kernel_rfl)
def ou(n:Nat)(v4:Int)(v5:Bs)(v60:Bool)(b1:af)(b2:aB)(b3:af)(b6:af):Option (Sum (aB×af) (aB)) :=
 if v60=true then((mZ n b6).bind fun r3 =>
 if(r3.f_E != 0)=true then(some (.inr r3))
 else(some (.inl (b2,r3.f_N))))
 else(if(v5==[110,97,109,101])=true then(((if((b6.av != 1)==false)=true then od n b6.aC else some false)).bind fun r4 =>
 if(bif (b6.av != 1) then true else(!r4))=true then(some (.inr (aB.mk (af.mk 0 [] [] []) v5 10)))
 else(some (.inl (b2,b6))))
 else((rN n b6).bind fun r5 =>
 if(!r5.2)=true then(some (.inr (aB.mk (af.mk 0 [] [] []) v5 10)))
 else(some (.inl (b2,r5.1)))))
end Go.Proofs.YtpmmhhmhckpnfaaGreat.M
namespace Go.Proofs.YtpmmhhmhckpnfaaGreat.M
open Go.RowKit Go.Proofs.YtpmmhhmhckpnfaaGreat.RX
set_option maxRecDepth 100000
abbrev Uz(x0:Bs):Nat×Nat×List D:=(2,31,[vi 0,.str [],.val (.slice none 0 0),.val (.slice none 0 0),.str x0,vi 10])
variable {F0:Fz} {w0:Pt Tryz.prog} {Q:Exit->Act->World->Prop}
theorem EY(n:Nat)(v4:Int)(v5:Bs)(v60:Bool)(b1:af)(b2:aB)(b3:af)(b6:af)(o:Sum (aB×af) (aB))(h:ou n v4 v5 v60 b1 b2 b3 b6=some o)(hQ:(Sum.elim (fun s=>To 104 F0 w0 [(1,.own 1 0),(2,.own 2 0),(3,.own 3 0),(4,vi v4),(5,.str v5),(6,.own 6 0)] [(1,25,qc6 b1),(2,31,qq s.1),(3,25,qc6 b3),(6,25,qc6 s.2)] .normal Q) (fun s=>To 104 F0 w0 [(2,.own 2 0)] [(2,31,qq s)] .ret Q)) o):Wp Tryz.prog 104 F0 w0 [(1,.own 1 0),(2,.own 2 0),(3,.own 3 0),(4,vi v4),(5,.str v5),(6,.own 6 0),(60,vb v60)] [(1,25,qc6 b1),(2,31,(ay b2)),(3,25,qc6 b3),(6,25,qc6 b6)] (cB (cA (cB (cB (cB (cB (cI (cA (cB (cI (cI (cB (cA (cB (cB (cB (cF Tryz.f8))))))))))))))))) Q:=by
 unfold ou at h
 refine cn h (fun h=>?_) (fun h=>?_)
 ·refine Wp.seq ?_
  obtain⟨r3,hr3,h⟩:=au h
  refine rc [] 1 [1,2,3,4,5,6,7] [1,2,3,6,7] [(1,.own 1 0),(2,.own 2 0),(3,.own 3 0),(4,vi v4),(5,.str v5),(6,.own 6 0),(7,.own 7 0)] [(1,25,qc6 b1),(2,31,(ay b2)),(3,25,qc6 b3),(6,25,qc6 b6),(7,31,(ay r3))] (CJ n b6 _ hr3) (To.ah (Wp.seq (Wp.seq (rg [1,2,3,4,5,6,7,65] [1,2,3,6,7] [(1,.own 1 0),(2,.own 2 0),(3,.own 3 0),(4,vi v4),(5,.str v5),(6,.own 6 0),(7,.own 7 0),(65,vb (r3.f_E != 0))] [(1,25,qc6 b1),(2,31,(ay b2)),(3,25,qc6 b3),(6,25,qc6 b6),(7,31,(ay r3))] (To.ah (cn h (fun h=>?_) (fun h=>?_)))))))
  ·refine Wp.seq (rg [2] [2] [(2,.own 2 0)] [(2,31,(ay r3))] (To.ah (Wp.ret (To.aA ?_))))
   cases h
   exact hQ
  ·refine Wp.skip (To.ah (rg [1,2,3,4,5,6] [1,2,3,6] [(1,.own 1 0),(2,.own 2 0),(3,.own 3 0),(4,vi v4),(5,.str v5),(6,.own 6 0)] [(1,25,qc6 b1),(2,31,(ay b2)),(3,25,qc6 b3),(6,25,[vi r3.f_N.av,.str r3.f_N.aC,ls r3.f_N.ak,tn4 r3.f_N.aj])] (kt [1,2,3,4,5,6] [1,2,3,6] [(1,.own 1 0),(2,.own 2 0),(3,.own 3 0),(4,vi v4),(5,.str v5),(6,.own 6 0)] [(1,25,qc6 b1),(2,31,(ay b2)),(3,25,qc6 b3),(6,25,[vi r3.f_N.av,.str r3.f_N.aC,ls r3.f_N.ak,tn4 r3.f_N.aj])] ?_)))
   cases h
   exact hQ
 ·refine Wp.seq (rg [1,2,3,4,5,6,70] [1,2,3,6] [(1,.own 1 0),(2,.own 2 0),(3,.own 3 0),(4,vi v4),(5,.str v5),(6,.own 6 0),(70,vb (v5==[110,97,109,101]))] [(1,25,qc6 b1),(2,31,(ay b2)),(3,25,qc6 b3),(6,25,qc6 b6)] (To.ah (cn h (fun h=>?_) (fun h=>?_))))
  ·refine Wp.seq ?_
   obtain⟨r4,hr4,h⟩:=au h
   refine rr [] [(6,vb r4)] [] [1,2,3,4,5,6,79] [1,2,3,6] [(1,.own 1 0),(2,.own 2 0),(3,.own 3 0),(4,vi v4),(5,.str v5),(6,.own 6 0),(79,vb (bif (b6.av != 1) then true else(!r4)))] [(1,25,qc6 b1),(2,31,(ay b2)),(3,25,qc6 b3),(6,25,qc6 b6)] [(((b6.av != 1)==false)=true->CX Tryz.prog 28 [.str b6.aC] (vb r4))] (ai.cons (fun hg=>cx (Ec n b6.aC _ (jB hg hr4))) ai.nil) (To.ah (cn h (fun h=>?_) (fun h=>?_)))
   ·refine Wp.seq (rg [2] [2] [(2,.own 2 0)] [(Uz v5)] (To.ah (Wp.ret (To.weak (K':=[(2,.own 2 0)]) (L':=[(2,31,[vi 0,.str [],ls [],tn4 [],.str v5,vi 10])]) (.cons (.refl _) .nil) (.cons (.cons (.refl _) (.cons (.refl _) (.cons (.zero _ _) (.cons (.bu _ _ _) (.cons (.refl _) (.cons (.refl _) .nil)))))) .nil) ?_))))
    cases h
    exact hQ
   ·refine Wp.skip (kt [1,2,3,4,5,6] [1,2,3,6] [(1,.own 1 0),(2,.own 2 0),(3,.own 3 0),(4,vi v4),(5,.str v5),(6,.own 6 0)] [(1,25,qc6 b1),(2,31,(ay b2)),(3,25,qc6 b3),(6,25,qc6 b6)] ?_)
    cases h
    exact hQ
  ·refine Wp.seq ?_
   obtain⟨r5,hr5,h⟩:=au h
   refine rc [] 1 [1,2,3,4,5,6,8,9] [1,2,3,6,8] [(1,.own 1 0),(2,.own 2 0),(3,.own 3 0),(4,vi v4),(5,.str v5),(6,.own 6 0),(8,.own 8 0),(9,vb r5.2)] [(1,25,qc6 b1),(2,31,(ay b2)),(3,25,qc6 b3),(6,25,qc6 b6),(8,25,qc6 r5.1)] (AY n b6 _ hr5) (To.ah (Wp.seq (Wp.seq (rg [1,2,3,4,5,6,8,88] [1,2,3,6,8] [(1,.own 1 0),(2,.own 2 0),(3,.own 3 0),(4,vi v4),(5,.str v5),(6,.own 6 0),(8,.own 8 0),(88,vb (!r5.2))] [(1,25,qc6 b1),(2,31,(ay b2)),(3,25,qc6 b3),(6,25,qc6 b6),(8,25,qc6 r5.1)] (To.ah (cn h (fun h=>?_) (fun h=>?_)))))))
   ·refine Wp.seq (rg [2] [2] [(2,.own 2 0)] [(Uz v5)] (To.ah (Wp.ret (To.aA (To.weak (K':=[(2,.own 2 0)]) (L':=[(2,31,[vi 0,.str [],ls [],tn4 [],.str v5,vi 10])]) (.cons (.refl _) .nil) (.cons (.cons (.refl _) (.cons (.refl _) (.cons (.zero _ _) (.cons (.bu _ _ _) (.cons (.refl _) (.cons (.refl _) .nil)))))) .nil) ?_)))))
    cases h
    exact hQ
   ·refine Wp.skip (To.ah (rg [1,2,3,4,5,6] [1,2,3,6] [(1,.own 1 0),(2,.own 2 0),(3,.own 3 0),(4,vi v4),(5,.str v5),(6,.own 6 0)] [(1,25,qc6 b1),(2,31,(ay b2)),(3,25,qc6 b3),(6,25,qc6 r5.1)] (kt [1,2,3,4,5,6] [1,2,3,6] [(1,.own 1 0),(2,.own 2 0),(3,.own 3 0),(4,vi v4),(5,.str v5),(6,.own 6 0)] [(1,25,qc6 b1),(2,31,(ay b2)),(3,25,qc6 b3),(6,25,qc6 r5.1)] ?_)))
    cases h
    exact hQ
def ot(n:Nat)(v4:Int)(b1:af)(b2:aB)(b3:af):Option (Sum (aB×af) (aB)) :=
 if(decide (0<=v4/\v4<(List.length b1.ak:Int)))=true then(if(decide (0<=v4/\v4<(List.length b1.aj:Int)))=true then((lQ n ((b1.ak)[Int.toNat v4]?.getD [])).bind fun r1 =>
 if r1=true then(some (.inl (b2,b3)))
 else(aQ ((bif (bif (bif (!(((b1.ak)[Int.toNat v4]?.getD [])==[110,97,109,101])) then(!(((b1.ak)[Int.toNat v4]?.getD [])==jV)) else false) then(!(((b1.ak)[Int.toNat v4]?.getD [])==wP)) else false) then(!(((b1.ak)[Int.toNat v4]?.getD [])==wX)) else false):Bool) fun x2 =>
 if x2=true then(some (.inr (aB.mk (af.mk 0 [] [] []) ((b1.ak)[Int.toNat v4]?.getD []) 10)))
 else(if((((b1.aj)[Int.toNat v4]?.getD (af.mk 0 [] [] [])).av)==0)=true then(some (.inl (b2,b3)))
 else((ou n v4 ((b1.ak)[Int.toNat v4]?.getD []) (((b1.ak)[Int.toNat v4]?.getD [])==jV) b1 b2 b3 ((b1.aj)[Int.toNat v4]?.getD (af.mk 0 [] [] []))).bind fun o3 =>
 (Sum.elim (fun o3=>(dK n b3 ((b1.ak)[Int.toNat v4]?.getD []) o3.2).bind fun r4 =>
 some (.inl (o3.1,r4))) (fun o3=>some (.inr o3))) o3)))) else none) else none
abbrev EM(x0:af)(x1:Int):Nat×Nat×List D:=(6,25,[vi ((ex5 x0 x1).av),.str ((ex5 x0 x1).aC),ls ((ex5 x0 x1).ak),tn4 ((ex5 x0 x1).aj)])
theorem ED(n:Nat)(v4:Int)(b1:af)(b2:aB)(b3:af)(o:Sum (aB×af) (aB))(h:ot n v4 b1 b2 b3=some o)(hQ:(Sum.elim (fun s=>To 104 F0 w0 [(1,.own 1 0),(2,.own 2 0),(3,.own 3 0),(4,vi v4)] [(1,25,qc6 b1),(2,31,qq s.1),(3,25,qc6 s.2)] .normal Q) (fun s=>To 104 F0 w0 [(2,.own 2 0)] [(2,31,qq s)] .ret Q)) o):Wp Tryz.prog 104 F0 w0 [(1,.own 1 0),(2,.own 2 0),(3,.own 3 0),(4,vi v4)] [(1,25,qc6 b1),(2,31,(ay b2)),(3,25,qc6 b3)] (cA (cB (cI (cI (cB (cA (cB (cB (cB (cF Tryz.f8)))))))))) Q:=by
 unfold ot at h
 refine Wp.block (Wp.seq ?_)
 obtain⟨hc5,h⟩:=ax h
 obtain⟨hc6,h⟩:=ax h
 refine Wp.bI hm hΓ [] [1,2,3,4,5,6] [1,2,3,6] (K':=[(1,.own 1 0),(2,.own 2 0),(3,.own 3 0),(4,vi v4),(5,.str (df b1 v4)),(6,.own 6 0)]) (L':=[(1,25,qc6 b1),(2,31,(ay b2)),(3,25,qc6 b3),(EM b1 v4)]) (ob:=[(Ip v4 b1)=true,(decide (ex6 v4 b1))=true]) (by kernel_rfl) (ai.cons hc5 (ai.cons hc6 ai.nil)) (To.ah (Wp.seq (Wp.seq ?_)))
 obtain⟨r1,hr1,h⟩:=au h
 refine rc [] 1 [1,2,3,4,5,6,39] [1,2,3,6] [(1,.own 1 0),(2,.own 2 0),(3,.own 3 0),(4,vi v4),(5,.str (df b1 v4)),(6,.own 6 0),(39,vb r1)] [(1,25,qc6 b1),(2,31,(ay b2)),(3,25,qc6 b3),(EM b1 v4)] (wA n (df b1 v4) _ hr1) (To.ah (cn h (fun h=>?_) (fun h=>?_)))
 ·refine Wp.exit (To.aK (To.aY (kt [1,2,3,4] [1,2,3] [(1,.own 1 0),(2,.own 2 0),(3,.own 3 0),(4,vi v4)] [(1,25,qc6 b1),(2,31,(ay b2)),(3,25,qc6 b3)] ?_)))
  cases h
  exact hQ
 ·refine Wp.skip (To.ah (Wp.seq (Wp.seq ?_)))
  obtain⟨x2,hx2,h⟩:=aS h
  refine rg [1,2,3,4,5,6,53] [1,2,3,6] [(1,.own 1 0),(2,.own 2 0),(3,.own 3 0),(4,vi v4),(5,.str (df b1 v4)),(6,.own 6 0),(53,vb (bif (bif (bif (!((df b1 v4)==[110,97,109,101])) then(!((df b1 v4)==jV)) else false) then(!((df b1 v4)==wP)) else false) then(!((df b1 v4)==wX)) else false))] [(1,25,qc6 b1),(2,31,(ay b2)),(3,25,qc6 b3),(EM b1 v4)] (To.eq (K':=[(1,.own 1 0),(2,.own 2 0),(3,.own 3 0),(4,vi v4),(5,.str (df b1 v4)),(6,.own 6 0),(53,vb x2)]) (L':=[(1,25,qc6 b1),(2,31,(ay b2)),(3,25,qc6 b3),(EM b1 v4)]) (by cases hx2;rfl) (by cases hx2;rfl) (To.ah (cn h (fun h=>?_) (fun h=>?_))))
  ·refine Wp.seq (rg [2] [2] [(2,.own 2 0)] [(QL b1 v4)] (To.ah (Wp.ret (To.aA (To.aP (To.weak (K':=[(2,.own 2 0)]) (L':=[(2,31,[vi 0,.str [],ls [],tn4 [],.str (df b1 v4),vi 10])]) (.cons (.refl _) .nil) (.cons (.cons (.refl _) (.cons (.refl _) (.cons (.zero _ _) (.cons (.bu _ _ _) (.cons (.refl _) (.cons (.refl _) .nil)))))) .nil) ?_))))))
   cases h
   exact hQ
  ·refine Wp.skip (To.ah (Wp.seq (Wp.seq (rg [1,2,3,4,5,6,58] [1,2,3,6] [(1,.own 1 0),(2,.own 2 0),(3,.own 3 0),(4,vi v4),(5,.str (df b1 v4)),(6,.own 6 0),(58,vb (((ex5 b1 v4).av)==0))] [(1,25,qc6 b1),(2,31,(ay b2)),(3,25,qc6 b3),(EM b1 v4)] (To.ah (cn h (fun h=>?_) (fun h=>?_)))))))
   ·refine Wp.exit (To.aK (To.aY (kt [1,2,3,4] [1,2,3] [(1,.own 1 0),(2,.own 2 0),(3,.own 3 0),(4,vi v4)] [(1,25,qc6 b1),(2,31,(ay b2)),(3,25,qc6 b3)] ?_)))
    cases h
    exact hQ
   ·refine Wp.skip (To.ah (Wp.seq (Wp.seq (rg [1,2,3,4,5,6,60] [1,2,3,6] [(1,.own 1 0),(2,.own 2 0),(3,.own 3 0),(4,vi v4),(5,.str (df b1 v4)),(6,.own 6 0),(60,vb ((df b1 v4)==jV))] [(1,25,qc6 b1),(2,31,(ay b2)),(3,25,qc6 b3),(EM b1 v4)] (To.ah ?_)))))
    obtain⟨o3,ho3,h⟩:=au h
    refine kw [1,2,3,4,5,6,60] [1,2,3,6] [(1,.own 1 0),(2,.own 2 0),(3,.own 3 0),(4,vi v4),(5,.str (df b1 v4)),(6,.own 6 0),(60,vb ((df b1 v4)==jV))] [(1,25,qc6 b1),(2,31,(ay b2)),(3,25,qc6 b3),(EM b1 v4)] (EY n v4 (df b1 v4) ((df b1 v4)==jV) b1 b2 b3 (ex5 b1 v4) o3 ho3 ?_)
    rcases o3 with o3|o3
    ·replace h:=cv h
     refine To.ah ?_
     obtain⟨r4,hr4,h⟩:=au h
     refine rc [] 3 [1,2,3,4] [1,2,3] [(1,.own 1 0),(2,.own 2 0),(3,.own 3 0),(4,vi v4)] [(1,25,qc6 b1),(2,31,(ay o3.1)),(3,25,qc6 r4)] (eu n b3 (df b1 v4) o3.2 _ hr4) (To.aR ?_)
     cases h
     exact hQ
    ·replace h:=cy h
     refine To.aA (To.aP (kt [2] [2] [(2,.own 2 0)] [(2,31,(ay o3))] ?_))
     cases h
     exact hQ
def gB(n:Nat)(b1:af):Nat->Int->aB->af->Option (Sum (aB×af) (aB))
 |0,_,_,_=>none
 |k+1,v4,b2,b3=>if(decide (v4<(List.length b1.ak:Int)))=true then((ot n v4 b1 b2 b3).bind fun o1 =>
 (Sum.elim (fun o1=>gB n b1 k (IntKind.wrap .i64 (v4+1)) o1.1 o1.2) (fun o1=>some (.inr o1))) o1)
 else(some (.inl (b2,b3)))
theorem EH(n:Nat)(b1:af)(k:Nat):∀(v4:Int)(b2:aB)(b3:af)(o:Sum (aB×af) (aB)),gB n b1 k v4 b2 b3=some o->(Sum.elim (fun s=>To 104 F0 w0 [(2,.own 2 0),(3,.own 3 0)] [(2,31,qq s.1),(3,25,qc6 s.2)] (.exit 0) Q) (fun s=>To 104 F0 w0 [(2,.own 2 0)] [(2,31,qq s)] .ret Q)) o->WL Tryz.prog 104 F0 w0 [(1,.own 1 0),(2,.own 2 0),(3,.own 3 0),(4,vi v4)] [(1,25,qc6 b1),(2,31,(ay b2)),(3,25,qc6 b3)] (cI (cI (cB (cA (cB (cB (cB (cF Tryz.f8)))))))) Q:=by
 induction k with
 |zero=>intro v4 b2 b3 o h;cases h
 |succ k ih =>
  intro v4 b2 b3 o h hQ
  rw[gB] at h
  refine WL.round (Wp.seq (Wp.seq (rg [1,2,3,4,25] [1,2,3] [(1,.own 1 0),(2,.own 2 0),(3,.own 3 0),(4,vi v4),(25,vb (yF v4 b1))] [(1,25,qc6 b1),(2,31,(ay b2)),(3,25,qc6 b3)] (To.ah (cn h (fun h=>?_) (fun h=>?_))))))
  ·refine Wp.skip (To.ah (Wp.seq ?_))
   obtain⟨o1,ho1,h⟩:=au h
   refine kw [1,2,3,4] [1,2,3] [(1,.own 1 0),(2,.own 2 0),(3,.own 3 0),(4,vi v4)] [(1,25,qc6 b1),(2,31,(ay b2)),(3,25,qc6 b3)] (ED n v4 b1 b2 b3 o1 ho1 ?_)
   rcases o1 with o1|o1
   ·replace h:=cv h
    refine To.ah (rg [1,2,3,4] [1,2,3] [(1,.own 1 0),(2,.own 2 0),(3,.own 3 0),(lL v4)] [(1,25,qc6 b1),(2,31,(ay o1.1)),(3,25,qc6 o1.2)] (kt [1,2,3,4] [1,2,3] [(1,.own 1 0),(2,.own 2 0),(3,.own 3 0),(lL v4)] [(1,25,qc6 b1),(2,31,(ay o1.1)),(3,25,qc6 o1.2)] (To.again ?_)))
    exact ih (IntKind.wrap .i64 (v4+1)) o1.1 o1.2 _ h hQ
   ·replace h:=cy h
    refine To.aA (To.aA (kt [2] [2] [(2,.own 2 0)] [(2,31,(ay o1))] ?_))
    cases h
    exact hQ
  ·refine Wp.exit (To.aK (To.aK (kt [2,3] [2,3] [(2,.own 2 0),(3,.own 3 0)] [(2,31,(ay b2)),(3,25,qc6 b3)] ?_)))
   cases h
   exact hQ
def sW(n:Nat)(a0:af):Option (aB) :=
 if(bif (a0.av != 0) then(a0.av != 3) else false)=true then(some (aB.mk (af.mk 0 [] [] []) [] 10))
 else((gB n a0 n 0 (aB.mk (af.mk 0 [] [] []) [] 0) (af.mk 3 [] [] [])).bind fun o1 =>
 (Sum.elim (fun o1=>(dH n o1.2).bind fun r2 =>
 (jY n r2).bind fun r3 =>
 if(!r3)=true then(some (aB.mk (af.mk 0 [] [] []) [] 9))
 else(some (aB.mk r2 [] 0))) (fun o1=>some o1)) o1)
theorem JF(n:Nat)(a0:af)(r:aB)(h:sW n a0=some r):aJ Tryz.prog 8 [.agg (qc6 a0)] (.agg (qq r)):=by
 unfold sW at h
 refine xo Tryz.f8 rfl fun F0 w0 _=>?_
 refine Wp.seq (rg [1,2] [1,2] [(1,.own 1 0),(2,.own 2 0)] [(1,25,qc6 a0),(2,31,[vi 0,.str [],.val (.slice none 0 0),.val (.slice none 0 0),.str [],vi 0])] (To.ah (Wp.seq (Wp.seq (rg [1,2,18] [1,2] [(1,.own 1 0),(2,.own 2 0),(18,vb (RJ a0))] [(1,25,qc6 a0),(2,31,[vi 0,.str [],.val (.slice none 0 0),.val (.slice none 0 0),.str [],vi 0])] (To.ah (cn h (fun h=>?_) (fun h=>?_))))))))
 ·refine Wp.seq (rg [2] [2] [(2,.own 2 0)] [(2,31,[vi 0,.str [],.val (.slice none 0 0),.val (.slice none 0 0),.str [],vi 10])] (To.ah (Wp.ret (To.aA (To.weak (K':=[(2,.own 2 0)]) (L':=[(2,31,[vi 0,.str [],ls [],tn4 [],.str [],vi 10])]) (.cons (.refl _) .nil) (.cons (.cons (.refl _) (.cons (.refl _) (.cons (.zero _ _) (.cons (.bu _ _ _) (.cons (.refl _) (.cons (.refl _) .nil)))))) .nil) ?_)))))
  cases h
  exact To.done hΓ (by kernel_rfl)
 ·refine Wp.skip (To.ah (Wp.seq (rg [1,2,3] [1,2,3] [(1,.own 1 0),(2,.own 2 0),(3,.own 3 0)] [(1,25,qc6 a0),(2,31,[vi 0,.str [],.val (.slice none 0 0),.val (.slice none 0 0),.str [],vi 0]),(3,25,[vi 3,.str [],.val (.slice none 0 0),.val (.slice none 0 0)])] (To.ah (Wp.seq (Wp.seq (rg [1,2,3,4] [1,2,3] [(1,.own 1 0),(2,.own 2 0),(3,.own 3 0),(4,vi 0)] [(1,25,qc6 a0),(2,31,[vi 0,.str [],.val (.slice none 0 0),.val (.slice none 0 0),.str [],vi 0]),(3,25,[vi 3,.str [],.val (.slice none 0 0),.val (.slice none 0 0)])] (To.ah (Wp.block ?_)))))))))
  obtain⟨o1,ho1,h⟩:=au h
  refine kw [1,2,3,4] [1,2,3] [(1,.own 1 0),(2,.own 2 0),(3,.own 3 0),(4,vi 0)] [(1,25,qc6 a0),(2,31,[vi 0,.str [],.val (.slice none 0 0),.val (.slice none 0 0),.str [],vi 0]),(3,25,[vi 3,.str [],.val (.slice none 0 0),.val (.slice none 0 0)])] (Wp.weak (K':=[(1,.own 1 0),(2,.own 2 0),(3,.own 3 0),(4,vi 0)]) (L':=[(1,25,qc6 a0),(2,31,[vi 0,.str [],ls [],tn4 [],.str [],vi 0]),(3,25,[vi 3,.str [],ls [],tn4 []])]) (.cons (.refl _) (.cons (.refl _) (.cons (.refl _) (.cons (.refl _) .nil)))) (.cons (.cons (.refl _) (.cons (.refl _) (.cons (.refl _) (.cons (.refl _) .nil)))) (.cons (.cons (.refl _) (.cons (.refl _) (.cons (.zero _ _) (.cons (.bu _ _ _) (.cons (.refl _) (.cons (.refl _) .nil)))))) (.cons (.cons (.refl _) (.cons (.refl _) (.cons (.zero _ _) (.cons (.bu _ _ _) .nil)))) .nil))) (Wp.bE (EH n a0 n 0 (aB.mk zx3 [] 0) (af.mk 3 [] [] []) o1 ho1 ?_)))
  rcases o1 with o1|o1
  ·replace h:=cv h
   refine To.aY (To.ah (Wp.seq ?_))
   obtain⟨r2,hr2,h⟩:=au h
   refine rc [] 1 [2,10] [2,10] [(2,.own 2 0),(10,.own 10 0)] [(2,31,(ay o1.1)),(10,25,qc6 r2)] (oN n o1.2 _ hr2) (To.ah (Wp.seq (Wp.seq ?_)))
   obtain⟨r3,hr3,h⟩:=au h
   refine rc [] 1 [2,10,100] [2,10] [(2,.own 2 0),(10,.own 10 0),(100,vb (!r3))] [(2,31,(ay o1.1)),(10,25,qc6 r2)] (uf n r2 _ hr3) (To.ah (cn h (fun h=>?_) (fun h=>?_)))
   ·refine Wp.seq (rg [2] [2] [(2,.own 2 0)] [(2,31,[vi 0,.str [],.val (.slice none 0 0),.val (.slice none 0 0),.str [],vi 9])] (To.ah (Wp.ret (To.aA (To.weak (K':=[(2,.own 2 0)]) (L':=[(2,31,[vi 0,.str [],ls [],tn4 [],.str [],vi 9])]) (.cons (.refl _) .nil) (.cons (.cons (.refl _) (.cons (.refl _) (.cons (.zero _ _) (.cons (.bu _ _ _) (.cons (.refl _) (.cons (.refl _) .nil)))))) .nil) ?_)))))
    cases h
    exact To.done hΓ (by kernel_rfl)
   ·refine Wp.skip (To.ah (Wp.seq (rg [2] [2] [(2,.own 2 0)] [(2,31,[vi r2.av,.str r2.aC,ls r2.ak,tn4 r2.aj,.str [],vi 0])] (To.ah (Wp.ret ?_)))))
    cases h
    exact To.done hΓ (by kernel_rfl)
  ·replace h:=cy h
   refine To.aP (To.aA ?_)
   cases h
   exact To.done hΓ (by kernel_rfl)
def jO(R_ref08_Same:af->af->Option (Bool))(n:Nat)(b2:af)(b3:af):Nat->Int->Option (Sum (Unit) (Bool))
 |0,_=>none
 |k+1,v5=>if(decide (v5<(List.length b2.aj:Int)))=true then(if(decide (0<=v5/\v5<(List.length b2.aj:Int)))=true then(if(decide (0<=v5/\v5<(List.length b3.aj:Int)))=true then((R_ref08_Same ((b2.aj)[Int.toNat v5]?.getD (af.mk 0 [] [] [])) ((b3.aj)[Int.toNat v5]?.getD (af.mk 0 [] [] []))).bind fun r3 =>
 if(!r3)=true then(some (.inr false))
 else(jO R_ref08_Same n b2 b3 k (IntKind.wrap .i64 (v5+1)))) else none) else none)
 else(some (.inl ()))
abbrev T9(R_ref08_Same:af->af->Option (Bool)):Prop:=∀(a0:af)(a1:af)(r:Bool),R_ref08_Same a0 a1=some r->aJ Tryz.prog 11 [.agg [vi a0.av,.str a0.aC,ls a0.ak,tn4 a0.aj],.agg [vi a1.av,.str a1.aC,ls a1.ak,tn4 a1.aj]] (vb r)
theorem Eg(R_ref08_Same:af->af->Option (Bool))(hR_ref08_Same:T9 R_ref08_Same)(n:Nat)(b2:af)(b3:af)(k:Nat):∀(v5:Int)(o:Sum (Unit) (Bool)),jO R_ref08_Same n b2 b3 k v5=some o->(Sum.elim (fun s=>To 54 F0 w0 [] [] (.exit 0) Q) (fun s=>To 54 F0 w0 [(4,vb s)] [] .ret Q)) o->WL Tryz.prog 54 F0 w0 [(2,.own 2 0),(3,.own 3 0),(5,vi v5)] [(2,25,qc6 b2),(3,25,qc6 b3)] (cI (cI (cB (cA (cB (cB (cF Tryz.f11))))))) Q:=by
 induction k with
 |zero=>intro v5 o h;cases h
 |succ k ih =>
  intro v5 o h hQ
  rw[jO] at h
  refine WL.round (Wp.seq (Wp.seq (rg [2,3,5,39] [2,3] [(2,.own 2 0),(3,.own 3 0),(5,vi v5),(39,vb (ex8 v5 b2))] [(2,25,qc6 b2),(3,25,qc6 b3)] (To.ah (cn h (fun h=>?_) (fun h=>?_))))))
  ·refine Wp.skip (To.ah (Wp.seq (Wp.block (Wp.seq ?_))))
   obtain⟨hc4,h⟩:=ax h
   obtain⟨hc5,h⟩:=ax h
   obtain⟨r3,hr3,h⟩:=au h
   refine Wp.bI hm hΓ [(10,vb r3)] [2,3,5,53] [2,3] (K':=[(2,.own 2 0),(3,.own 3 0),(5,vi v5),(53,vb (!r3))]) (L':=[(2,25,qc6 b2),(3,25,qc6 b3)]) (ob:=[(decide (ex6 v5 b2))=true,(decide (ex6 v5 b3))=true,(true=true->CX Tryz.prog 11 [.agg [vi ((ex5 b2 v5).av),.str ((ex5 b2 v5).aC),ls ((ex5 b2 v5).ak),tn4 ((ex5 b2 v5).aj)],.agg [vi ((ex5 b3 v5).av),.str ((ex5 b3 v5).aC),ls ((ex5 b3 v5).ak),tn4 ((ex5 b3 v5).aj)]] (vb r3))]) (by kernel_rfl) (ai.cons hc4 (ai.cons hc5 (ai.cons (fun _=>cx (hR_ref08_Same (ex5 b2 v5) (ex5 b3 v5) _ hr3)) ai.nil))) (To.ah (cn h (fun h=>?_) (fun h=>?_)))
   ·refine Wp.seq (rg [4] [] [(4,vb false)] [] (To.ah (Wp.ret (To.aP (To.aA (To.aA ?_))))))
    cases h
    exact hQ
   ·refine Wp.skip (To.aR (To.ah (rg [2,3,5] [2,3] [(2,.own 2 0),(3,.own 3 0),(ex3 v5)] [(2,25,qc6 b2),(3,25,qc6 b3)] (kt [2,3,5] [2,3] [(2,.own 2 0),(3,.own 3 0),(ex3 v5)] [(2,25,qc6 b2),(3,25,qc6 b3)] (To.again ?_)))))
    exact ih (IntKind.wrap .i64 (v5+1)) _ h hQ
  ·refine Wp.exit (To.aK (To.aK (kt [] [] [] [] ?_)))
   cases h
   exact hQ
def oV(R_ref08_Same:af->af->Option (Bool))(n:Nat)(a0:af)(a1:af):Option (Bool) :=
 ((if((bif (a0.av != a1.av) then true else(!(a0.aC==a1.aC)))==false)=true then kG n a0.ak a1.ak else some false)).bind fun r1 =>
 aQ ((bif (bif (bif (a0.av != a1.av) then true else(!(a0.aC==a1.aC))) then true else(!r1)) then true else((List.length a0.aj:Int) != (List.length a1.aj:Int))):Bool) fun x2 =>
 if x2=true then some false
 else((jO R_ref08_Same n a0 a1 n 0).bind fun o3 =>
 (Sum.elim (fun o3=>some true) (fun o3=>some o3)) o3)
theorem GR(R_ref08_Same:af->af->Option (Bool))(hR_ref08_Same:T9 R_ref08_Same)(n:Nat)(a0:af)(a1:af)(r:Bool)(h:oV R_ref08_Same n a0 a1=some r):aJ Tryz.prog 11 [.agg (qc6 a0),.agg (qc6 a1)] (vb r):=by
 unfold oV at h
 refine xo Tryz.f11 rfl fun F0 w0 _=>?_
 refine Wp.seq (rg [2,3] [2,3] [(2,.own 2 0),(3,.own 3 0)] [(2,25,qc6 a0),(3,25,qc6 a1)] (To.ah (Wp.seq (Wp.seq ?_))))
 obtain⟨r1,hr1,h⟩:=au h
 obtain⟨x2,hx2,h⟩:=aS h
 refine rr [] [(17,vb r1)] [] [2,3,34] [2,3] [(2,.own 2 0),(3,.own 3 0),(34,vb (bif (bif (bif (a0.av != a1.av) then true else(!(a0.aC==a1.aC))) then true else(!r1)) then true else((List.length a0.aj:Int) != (List.length a1.aj:Int))))] [(2,25,qc6 a0),(3,25,qc6 a1)] [(((bif (a0.av != a1.av) then true else(!(a0.aC==a1.aC)))==false)=true->CX Tryz.prog 12 [ls a0.ak,ls a1.ak] (vb r1))] (ai.cons (fun hg=>cx (vg n a0.ak a1.ak _ (jB hg hr1))) ai.nil) (To.eq (K':=[(2,.own 2 0),(3,.own 3 0),(34,vb x2)]) (L':=[(2,25,qc6 a0),(3,25,qc6 a1)]) (by cases hx2;rfl) (by cases hx2;rfl) (To.ah (cn h (fun h=>?_) (fun h=>?_))))
 ·refine Wp.seq (rg [4] [] [(4,vb false)] [] (To.ah (Wp.ret (To.aA ?_))))
  cases h
  exact To.done hΓ (by kernel_rfl)
 ·refine Wp.skip (To.ah (Wp.seq (Wp.seq (rg [2,3,5] [2,3] [(2,.own 2 0),(3,.own 3 0),(5,vi 0)] [(2,25,qc6 a0),(3,25,qc6 a1)] (To.ah (Wp.block ?_))))))
  obtain⟨o3,ho3,h⟩:=au h
  refine kw [2,3,5] [2,3] [(2,.own 2 0),(3,.own 3 0),(5,vi 0)] [(2,25,qc6 a0),(3,25,qc6 a1)] (Wp.bE (Eg R_ref08_Same hR_ref08_Same n a0 a1 n 0 o3 ho3 ?_))
  rcases o3 with o3|o3
  ·replace h:=cv h
   refine To.aY (To.ah (Wp.seq (rg [4] [] [(4,vb true)] [] (To.ah (Wp.ret ?_)))))
   cases h
   exact To.done hΓ (by kernel_rfl)
  ·replace h:=cy h
   refine To.aP (To.aA ?_)
   cases h
   exact To.done hΓ (by kernel_rfl)
def jJ:Nat->af->af->Option (Bool)
 |0=>fun _ _=>none
 |n+1=>oV (jJ n) n
theorem Jo(n:Nat):∀(a0:af)(a1:af)(r:Bool),jJ n a0 a1=some r->aJ Tryz.prog 11 [.agg (qc6 a0),.agg (qc6 a1)] (vb r):=by
 induction n with
 |zero=>intro a0 a1 r h;cases h
 |succ n ih=>exact fun a0 a1 r h=>GR (jJ n) ih n a0 a1 r h
def kC(n:Nat)(v0:Ls)(v1:Ls):Nat->(Ls)->Int->Option ((Ls))
 |0,_,_=>none
 |k+1,v5,v6=>if(decide (v6<(List.length v0:Int)))=true then(if(decide (0<=v6/\v6<(List.length v0:Int)))=true then(if(decide ((List.length v5+List.length ([((v0)[Int.toNat v6]?.getD [])]:Ls))*(16+1)<=limit))=true then(kC n v0 v1 k (v5++([((v0)[Int.toNat v6]?.getD [])]:Ls)) (IntKind.wrap .i64 (v6+1))) else none) else none)
 else some v5
theorem EU(n:Nat)(v0:Ls)(v1:Ls)(k:Nat):∀(v5:Ls)(v6:Int)(o:(Ls)),kC n v0 v1 k v5 v6=some o->To 37 F0 w0 [(1,ls v1),(5,.row 1005)] [(1005,9,[rc1 o])] (.exit 0) Q->WL Tryz.prog 37 F0 w0 [(0,ls v0),(1,ls v1),(5,.row 1005),(6,vi v6)] [(1005,9,[rc1 v5])] (cI (cI (cB (cA (cB (cB (cF Tryz.f19))))))) Q:=by
 induction k with
 |zero=>intro v5 v6 o h;cases h
 |succ k ih =>
  intro v5 v6 o h hQ
  rw[kC] at h
  refine WL.round (Wp.seq (Wp.seq (rg [0,1,5,6,12] [1005] [(0,ls v0),(1,ls v1),(5,.row 1005),(6,vi v6),(12,vb (ex4 v6 v0))] [(1005,9,[rc1 v5])] (To.ah (cn h (fun h=>?_) (fun h=>?_))))))
  ·refine Wp.skip (To.ah (Wp.seq (Wp.block ?_)))
   obtain⟨hc1,h⟩:=ax h
   obtain⟨hc2,h⟩:=ax h
   refine rr [] [(5,ls (yl v0 v6)),(6,ls (v5++(jF v0 v6)))] [] [0,1,5,6] [21] [(0,ls v0),(1,ls v1),(5,.row 21),(6,vi v6)] [(21,9,[rc1 (v5++(jF v0 v6))])] [_,(ck 1 [.str ((v0)[Int.toNat v6]?.getD [])] 1 (ls (yl v0 v6))/\aM (ls (yl v0 v6))),_,(gY [] aW v5 (List.flatMap aW (jF v0 v6)) (List.length (jF v0 v6)) (ls (v5++(jF v0 v6)))/\aM (ls (v5++(jF v0 v6))))] (ai.cons hc1 (ai.cons (du (by kernel_rfl) rfl (by kernel_rfl) (aI _)) (ai.cons hc2 (ai.cons (iI rfl rfl (aI _)) ai.nil)))) (To.aR (To.ah (rg [0,1,5,6] [21] [(0,ls v0),(1,ls v1),(5,.row 21),(tZ v6)] [(21,9,[rc1 (v5++(jF v0 v6))])] (nt [0,1,5,6] [21] [(21,1005)] [0,1,5,6] [1005] [(0,ls v0),(1,ls v1),(5,.row 1005),(tZ v6)] [(1005,9,[rc1 (v5++(jF v0 v6))])] (To.again ?_)))))
   exact ih (v5++(jF v0 v6)) (IntKind.wrap .i64 (v6+1)) _ h hQ
  ·refine Wp.exit (To.aK (To.aK (kt [1,5] [1005] [(1,ls v1),(5,.row 1005)] [(1005,9,[rc1 v5])] ?_)))
   cases h
   exact hQ
def kB(n:Nat)(v1:Ls):Nat->(Ls)->Int->Option ((Ls))
 |0,_,_=>none
 |k+1,v5,v7=>if(decide (v7<(List.length v1:Int)))=true then(if(decide (0<=v7/\v7<(List.length v1:Int)))=true then(if(decide ((List.length v5+List.length ([((v1)[Int.toNat v7]?.getD [])]:Ls))*(16+1)<=limit))=true then(kB n v1 k (v5++([((v1)[Int.toNat v7]?.getD [])]:Ls)) (IntKind.wrap .i64 (v7+1))) else none) else none)
 else some v5
theorem Ey(n:Nat)(v1:Ls)(k:Nat):∀(v5:Ls)(v7:Int)(o:(Ls)),kB n v1 k v5 v7=some o->To 37 F0 w0 [(5,.row 1005)] [(1005,9,[rc1 o])] (.exit 2) Q->WL Tryz.prog 37 F0 w0 [(1,ls v1),(5,.row 1005),(7,vi v7)] [(1005,9,[rc1 v5])] (cI (cI (cB (cA (cB (cB (cB (cF Tryz.f19)))))))) Q:=by
 induction k with
 |zero=>intro v5 v7 o h;cases h
 |succ k ih =>
  intro v5 v7 o h hQ
  rw[kB] at h
  refine WL.round (Wp.seq (Wp.seq (rg [1,5,7,25] [1005] [(1,ls v1),(5,.row 1005),(7,vi v7),(25,vb (ex4 v7 v1))] [(1005,9,[rc1 v5])] (To.ah (cn h (fun h=>?_) (fun h=>?_))))))
  ·refine Wp.skip (To.ah (Wp.seq (Wp.block ?_)))
   obtain⟨hc2,h⟩:=ax h
   obtain⟨hc3,h⟩:=ax h
   refine rr [] [(5,ls (yl v1 v7)),(6,ls (v5++(jF v1 v7)))] [] [1,5,7] [34] [(1,ls v1),(5,.row 34),(7,vi v7)] [(34,9,[rc1 (v5++(jF v1 v7))])] [_,(ck 1 [.str ((v1)[Int.toNat v7]?.getD [])] 1 (ls (yl v1 v7))/\aM (ls (yl v1 v7))),_,(gY [] aW v5 (List.flatMap aW (jF v1 v7)) (List.length (jF v1 v7)) (ls (v5++(jF v1 v7)))/\aM (ls (v5++(jF v1 v7))))] (ai.cons hc2 (ai.cons (du (by kernel_rfl) rfl (by kernel_rfl) (aI _)) (ai.cons hc3 (ai.cons (iI rfl rfl (aI _)) ai.nil)))) (To.aR (To.ah (rg [1,5,7] [34] [(1,ls v1),(5,.row 34),(ex7 v7)] [(34,9,[rc1 (v5++(jF v1 v7))])] (nt [1,5,7] [34] [(34,1005)] [1,5,7] [1005] [(1,ls v1),(5,.row 1005),(ex7 v7)] [(1005,9,[rc1 (v5++(jF v1 v7))])] (To.again ?_)))))
   exact ih (v5++(jF v1 v7)) (IntKind.wrap .i64 (v7+1)) _ h hQ
  ·refine Wp.exit (To.aK (To.aK (kt [5] [1005] [(5,.row 1005)] [(1005,9,[rc1 v5])] ?_)))
   cases h
   exact hQ
def sL(n:Nat)(a0:Ls)(a1:Ls):Option ((Ls)) :=
 (kC n a0 a1 n ([]:Ls) 0).bind fun o1 =>
 (kB n a1 n o1 0).bind fun o2 =>
 (jH n o2).bind fun r3 =>
 some r3
theorem Jn(n:Nat)(a0:Ls)(a1:Ls)(r:(Ls))(h:sL n a0 a1=some r):aJ Tryz.prog 19 [ls a0,ls a1] (ls r):=by
 unfold sL at h
 refine xo Tryz.f19 rfl fun F0 w0 _=>?_
 refine Wp.seq (rg [0,1] [] [(0,ls a0),(1,ls a1)] [] (To.ah (Wp.seq (rr [] [(0,ls [])] [] [0,1,5] [8] [(0,ls a0),(1,ls a1),(5,.row 8)] [(8,9,[rc1 []])] [(ck 1 [] 0 (ls [])/\aM (ls []))] (ai.cons (du (by kernel_rfl) rfl (by kernel_rfl) (aI _)) ai.nil) (To.ah (Wp.seq (Wp.seq (rg [0,1,5,6] [8] [(0,ls a0),(1,ls a1),(5,.row 8),(6,vi 0)] [(8,9,[rc1 []])] (To.ah (Wp.block ?_))))))))))
 obtain⟨o1,ho1,h⟩:=au h
 refine nw [0,1,5,6] [8] [(8,1005)] [0,1,5,6] [1005] [(0,ls a0),(1,ls a1),(5,.row 1005),(6,vi 0)] [(1005,9,[rc1 []])] (Wp.bE (EU n a0 a1 n ([]:Ls) 0 o1 ho1 (To.aY (To.ah (Wp.seq (Wp.seq (rg [1,5,7] [1005] [(1,ls a1),(5,.row 1005),(7,vi 0)] [(1005,9,[rc1 o1])] (To.ah (Wp.block ?_)))))))))
 obtain⟨o2,ho2,h⟩:=au h
 refine kw [1,5,7] [1005] [(1,ls a1),(5,.row 1005),(7,vi 0)] [(1005,9,[rc1 o1])] (Wp.bE (Ey n a1 n o1 0 o2 ho2 (To.aY (To.ah (Wp.seq ?_)))))
 obtain⟨r3,hr3,h⟩:=au h
 refine rc [(1,[1005])] 1 [4] [] [(4,ls r3)] [] (sJ n o2 _ hr3) (To.ah (Wp.ret ?_))
 cases h
 exact To.done hΓ (by kernel_rfl)
def tV(n:Nat)(v8:Bs)(b9:af)(b1000000:Ls)(b1000001:Ls)(b1000002:Ls):Option ((Ls)) :=
 (dJ n b1000000 v8).bind fun r2 =>
 ((if(r2==true)=true then uj n b9 b1000001 else some false)).bind fun r3 =>
 if(bif r2 then(!r3) else false)=true then((kz n b9).bind fun r4 =>
 if(decide ((List.length b1000002+List.length r4)*(16+1)<=limit))=true then(some (b1000002++r4)) else none)
 else some b1000002
theorem F9(n:Nat)(v8:Bs)(b9:af)(b1000000:Ls)(b1000001:Ls)(b1000002:Ls)(o:(Ls))(h:tV n v8 b9 b1000000 b1000001 b1000002=some o)(hQ:To 31 F0 w0 [(4,.own 1000000 0),(5,.own 1000001 0),(7,.own 1000002 0)] [(504120,9,[rc1 o]),(1000000,22,[ls b1000000]),(1000001,22,[ls b1000001]),(1000002,22,[.row 504120])] .normal Q):Wp Tryz.prog 31 F0 w0 [(4,.own 1000000 0),(5,.own 1000001 0),(7,.own 1000002 0),(8,.str v8),(9,.own 9 0)] [(9,25,qc6 b9),(504120,9,[rc1 b1000002]),(1000000,22,[ls b1000000]),(1000001,22,[ls b1000001]),(1000002,22,[.row 504120])] (cRB (cI (cB (cA (cB (cB (cF Tryz.f15))))))) Q:=by
 unfold tV at h
 refine Wp.block (Wp.seq ?_)
 obtain⟨r2,hr2,h⟩:=au h
 obtain⟨r3,hr3,h⟩:=au h
 refine rr [] [(2,vb r2),(6,vb r3)] [] [4,5,7,9,24] [9,504120,1000000,1000001,1000002] [(4,.own 1000000 0),(5,.own 1000001 0),(7,.own 1000002 0),(9,.own 9 0),(24,vb (bif r2 then(!r3) else false))] [(9,25,qc6 b9),(504120,9,[rc1 b1000002]),(1000000,22,[ls b1000000]),(1000001,22,[ls b1000001]),(1000002,22,[.row 504120])] [_,((r2==true)=true->CX Tryz.prog 33 [.agg (qc6 b9),ls b1000001] (vb r3))] (ai.cons (c1 (lq n b1000000 v8 _ hr2)) (ai.cons (fun hg=>cx (yU n b9 b1000001 _ (jB hg hr3))) ai.nil)) (To.ah (cn h (fun h=>?_) (fun h=>?_)))
 ·obtain⟨r4,hr4,h⟩:=au h
  obtain⟨hc5,h⟩:=ax h
  refine Wp.Hq hm hΓ [] [(2,ls r4),(3,ls (b1000002++r4))] [] [4,5,7,9,24,25,26,27,28] [9,28,504120,1000000,1000001,1000002] [4,5,7] [28,1000000,1000001,1000002] (K':=[(4,.own 1000000 0),(5,.own 1000001 0),(7,.own 1000002 0)]) (L':=[(28,9,[rc1 (b1000002++r4)]),(1000000,22,[ls b1000000]),(1000001,22,[ls b1000001]),(1000002,22,[.row 28])]) (ob:=[(true=true->CX Tryz.prog 41 [.agg (qc6 b9)] (ls r4)),(decide ((List.length b1000002+List.length r4)*(16+1)<=limit))=true,(gY [] aW b1000002 (List.flatMap aW r4) (List.length r4) (ls (b1000002++r4))/\aM (ls (b1000002++r4)))]) (by kernel_rfl) (by kernel_rfl) (ai.cons (fun _=>cx (rC n b9 _ hr4)) (ai.cons hc5 (ai.cons (iI rfl rfl (aI _)) ai.nil))) (To.aR (nt [4,5,7] [28,1000000,1000001,1000002] [(28,504120)] [4,5,7] [504120,1000000,1000001,1000002] [(4,.own 1000000 0),(5,.own 1000001 0),(7,.own 1000002 0)] [(504120,9,[rc1 (b1000002++r4)]),(1000000,22,[ls b1000000]),(1000001,22,[ls b1000001]),(1000002,22,[.row 504120])] ?_))
  cases h
  exact hQ
 ·refine Wp.skip (To.aR (kt [4,5,7] [504120,1000000,1000001,1000002] [(4,.own 1000000 0),(5,.own 1000001 0),(7,.own 1000002 0)] [(504120,9,[rc1 b1000002]),(1000000,22,[ls b1000000]),(1000001,22,[ls b1000001]),(1000002,22,[.row 504120])] ?_))
  cases h
  exact hQ
def iL(n:Nat)(b1000000:Ls)(b1000001:Ls):List (Bs×af)->(Ls)->Option ((Ls))
 |[],b1000002=>some b1000002
 |x::r,b1000002=>(tV n x.1 x.2 b1000000 b1000001 b1000002).bind fun o2 =>
 iL n b1000000 b1000001 r o2
theorem Gm(n:Nat)(b1000000:Ls)(b1000001:Ls)(x:(Bs×af))(r:List (Bs×af))(b1000002:Ls)(o:(Ls))(h:iL n b1000000 b1000001 (x::r) b1000002=some o){F0:Fz}{w0:Pt Tryz.prog}{Lx:aG}:Wp Tryz.prog 31 F0 w0 [(4,.own 1000000 0),(5,.own 1000001 0),(7,.own 1000002 0),(8,.str x.1),(9,.own 9 0)] [(9,25,qc6 x.2),(504120,9,[rc1 b1000002]),(1000000,22,[ls b1000000]),(1000001,22,[ls b1000001]),(1000002,22,[.row 504120])] (cRB (cI (cB (cA (cB (cB (cF Tryz.f15))))))) (ny F0 w0 (fun(s:(Ls))=>iL n b1000000 b1000001 r s=some o) (fun(s:(Ls))=>[(504120,9,[rc1 s]),(1000000,22,[ls b1000000]),(1000001,22,[ls b1000001]),(1000002,22,[.row 504120])]) none Lx):=by
 rw[iL] at h
 obtain⟨o2,ho2,h⟩:=au h
 refine kw [4,5,7,8,9] [9,504120,1000000,1000001,1000002] [(4,.own 1000000 0),(5,.own 1000001 0),(7,.own 1000002 0),(8,.str x.1),(9,.own 9 0)] [(9,25,qc6 x.2),(504120,9,[rc1 b1000002]),(1000000,22,[ls b1000000]),(1000001,22,[ls b1000001]),(1000002,22,[.row 504120])] (F9 n x.1 x.2 b1000000 b1000001 b1000002 o2 ho2 (kt [4,5,7] [504120,1000000,1000001,1000002] [(4,.own 1000000 0),(5,.own 1000001 0),(7,.own 1000002 0)] [(504120,9,[rc1 o2]),(1000000,22,[ls b1000000]),(1000001,22,[ls b1000001]),(1000002,22,[.row 504120])] ?_))
 exact To.round o2 [504120,1000000,1000001,1000002] h (by kernel_rfl)
def rP(n:Nat)(a0:af)(a1:Ls)(a2:Ls):Option ((Ls)) :=
 (dn n a2).bind fun r1 =>
 (mg n a0).bind fun xs2 =>
 (iL n a1 a2 xs2 r1).bind fun o3 =>
 (kL n o3).bind fun r4 =>
 some r4
theorem LM(n:Nat)(a0:af)(a1:Ls)(a2:Ls)(r:(Ls))(h:rP n a0 a1 a2=some r):aJ Tryz.prog 15 [.agg (qc6 a0),ls a1,ls a2] (ls r):=by
 unfold rP at h
 refine vq (fn:=Tryz.f15) (by kernel_rfl) rfl (by kernel_rfl) (Nat.le_of_ble_eq_true (by kernel_rfl)) fun F0 w0 _=>?_
 refine kw [0,1,2] [] [(0,.agg (qc6 a0)),(1,ls a1),(2,ls a2)] [] (Wp.seq (rg [3,4,5] [3,4,5] [(3,.own 3 0),(4,.own 4 0),(5,.own 5 0)] [(3,25,qc6 a0),(4,22,[ls a1]),(5,22,[ls a2])] (To.ah (Wp.seq ?_))))
 obtain⟨r1,hr1,h⟩:=au h
 refine rb [] 1 ⟨[],[(1,11)],[ls a2],[],.row 1,[(1,9,[rc1 r1])]⟩ [3,4,5,7] [3,4,5,7,11] [(3,.own 3 0),(4,.own 4 0),(5,.own 5 0),(7,.own 7 0)] [(3,25,qc6 a0),(4,22,[ls a1]),(5,22,[ls a2]),(7,22,[.row 11]),(11,9,[rc1 r1])] ((lI n a2 _ hr1)) (To.ah (Wp.seq (Wp.seq (rr [] [(1,.fn 50 [.el (qc6 a0)])] [] [4,5,7,13] [4,5,7,11] [(4,.own 4 0),(5,.own 5 0),(7,.own 7 0),(13,.fn 50 [.el (qc6 a0)])] [(4,22,[ls a1]),(5,22,[ls a2]),(7,22,[.row 11]),(11,9,[rc1 r1])] [(true=true->CX Tryz.prog 32 [.agg (qc6 a0)] (.fn 50 [.el (qc6 a0)]))] (ai.cons (fun _=>cx (uU a0)) ai.nil) (To.ah (Wp.block ?_))))))
 obtain⟨xs2,hxs2,h⟩:=au h
 obtain⟨o3,ho3,h⟩:=au h
 refine nw [4,5,7,13] [4,5,7,11] [(11,4420)] [4,5,7,13] [4,5,7,4420] [(4,.own 4 0),(5,.own 5 0),(7,.own 7 0),(13,.fn 50 [.el (qc6 a0)])] [(4,22,[ls a1]),(5,22,[ls a2]),(7,22,[.row 4420]),(4420,9,[rc1 r1])] (Wp.xQ (σ:=(Ls)) (encs:=ko) (xs:=xs2) ⟨[(1000000,4),(1000001,5),(1000002,7),(1000003,4420)],[(1000000,4),(1000001,5),(1000002,7),(504120,4420)],[],[(1000000,22,[ls a1]),(1000001,22,[ls a2]),(1000002,22,[.row 1000003]),(1000003,9,[rc1 r1])],.hole,[(504120,9,[rc1 o3]),(1000000,22,[ls a1]),(1000001,22,[ls a2]),(1000002,22,[.row 504120])]⟩ (fun r (s:(Ls))=>iL n a1 a2 r s=some o3) (fun(s:(Ls))=>[(504120,9,[rc1 s]),(1000000,22,[ls a1]),(1000001,22,[ls a2]),(1000002,22,[.row 504120])]) none [4,5,7] [7] [(4,.own 1000000 0),(5,.own 1000001 0),(7,.own 1000002 0)] [(7,.own 7 0)] [(4420,9,[rc1 o3]),(4,22,[ls a1]),(5,22,[ls a2]),(7,22,[.row 4420])] r1 (fun x (s:(Ls))=>[(4,.own 1000000 0),(5,.own 1000001 0),(7,.own 1000002 0),(8,.str x.1),(9,.own 9 0)]) (fun x (s:(Ls))=>[(9,25,qc6 x.2),(504120,9,[rc1 s]),(1000000,22,[ls a1]),(1000001,22,[ls a2]),(1000002,22,[.row 504120])]) rfl (by kernel_rfl) (by kernel_rfl) (pG n a0 xs2 hxs2) (by kernel_rfl) (by kernel_rfl) (fun s=>by kernel_rfl) (by kernel_rfl) (by kernel_rfl) (by kernel_rfl) ho3 (fun F1 w1 a w h=>St.reL [504120,1000000,1000001,1000002] (by kernel_rfl) a w (St.restart (L':=[(1000000,22,[ls a1]),(1000001,22,[ls a2]),(1000002,22,[.row 504120]),(504120,9,[rc1 r1])]) 1000003 504120 (by decide) (by kernel_rfl) (by kernel_rfl) a w (h))) (fun x=>rfl) (by decide) (by decide) (fun x=>by kernel_rfl) (by kernel_rfl) (by kernel_rfl) (fun x s=>by kernel_rfl) (fun s h=>⟨rfl,by rw[iL] at h;cases h;rfl⟩) (by kernel_rfl) (by kernel_rfl) (fun x r s h F1 w1=>?_) (fun x r s h F1 w1=>Gm n a1 a2 x r s _ h) (fun F1 w1 hA=>?_))
 ·refine Wp.seq (rg [4,5,7,8,15] [504120,1000000,1000001,1000002] [(4,.own 1000000 0),(5,.own 1000001 0),(7,.own 1000002 0),(8,.str x.1),(15,.agg (qc6 x.2))] [(504120,9,[rc1 s]),(1000000,22,[ls a1]),(1000001,22,[ls a2]),(1000002,22,[.row 504120])] (To.ah (rg [4,5,7,8,9] [9,504120,1000000,1000001,1000002] [(4,.own 1000000 0),(5,.own 1000001 0),(7,.own 1000002 0),(8,.str x.1),(9,.own 9 0)] [(9,25,qc6 x.2),(504120,9,[rc1 s]),(1000000,22,[ls a1]),(1000001,22,[ls a2]),(1000002,22,[.row 504120])] (kt [4,5,7,8,9] [9,504120,1000000,1000001,1000002] [(4,.own 1000000 0),(5,.own 1000001 0),(7,.own 1000002 0),(8,.str x.1),(9,.own 9 0)] [(9,25,qc6 x.2),(504120,9,[rc1 s]),(1000000,22,[ls a1]),(1000001,22,[ls a2]),(1000002,22,[.row 504120])] ?_))))
  exact fun a w h=>⟨rfl,h⟩
 ·refine To.aR (To.ah (Wp.seq ?_))
  obtain⟨r4,hr4,h⟩:=au h
  refine rc [(1,[4420])] 1 [6] [] [(6,ls r4)] [] (ud n o3 _ hr4) (To.ah (Wp.ret ?_))
  cases h
  first|exact To.Gf hΓ hA (by kernel_rfl) (by kernel_rfl)|exact To.Ax hΓ (by kernel_rfl)
end Go.Proofs.YtpmmhhmhckpnfaaGreat.M
