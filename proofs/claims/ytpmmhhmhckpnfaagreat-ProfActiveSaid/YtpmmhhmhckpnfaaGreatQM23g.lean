import Derived.Test.YtpmmhhmhckpnfaaGreatQM23f
set_option linter.all false
namespace Go.Proofs.YtpmmhhmhckpnfaaGreat.M
open Go.RowKit Go.Proofs.YtpmmhhmhckpnfaaGreat.RX
set_option maxRecDepth 100000
variable {F0:Fz} {w0:Pt Tryz.prog} {Q:Exit->Act->World->Prop}
theorem C9(n:Nat)(b4:List (Int))(b12:List (Int))(k:Nat):∀(v5:Bool)(v13:Int)(v14:Int)(o:Bool×Int),dW n b4 b12 k v5 v13 v14=some o->To 87 F0 w0 [(5,vb o.1),(13,vi o.2)] [] (.exit 2) Q->WL Tryz.prog 87 F0 w0 [(4,.elm 4 0 1 0),(5,vb v5),(12,.elm 12 0 1 0),(13,vi v13),(14,vi v14)] [(4,138,[rc25 b4]),(12,138,[rc25 b12])] (cI (cI (cB (cA (cB (cB (cB (cB (cB (cB (cB (cB (cF Tryz.f125))))))))))))) Q:=by
 induction k with
 |zero=>intro v5 v13 v14 o h;cases h
 |succ k ih =>
  intro v5 v13 v14 o h hQ
  rw[dW] at h
  refine WL.round (Wp.seq (Wp.seq (rg [4,5,12,13,14,59] [4,12] [(4,.elm 4 0 1 0),(5,vb v5),(12,.elm 12 0 1 0),(13,vi v13),(14,vi v14),(59,vb (decide (v14<4)))] [(4,138,[rc25 b4]),(12,138,[rc25 b12])] (To.ah (cn h (fun h=>?_) (fun h=>?_))))))
  ·refine Wp.skip (To.ah (Wp.seq ?_))
   obtain⟨o4,ho4,h⟩:=au h
   refine kw [4,5,12,13,14] [4,12] [(4,.elm 4 0 1 0),(5,vb v5),(12,.elm 12 0 1 0),(13,vi v13),(14,vi v14)] [(4,138,[rc25 b4]),(12,138,[rc25 b12])] (Dx n v5 v13 v14 b4 b12 o4 ho4 (To.ah (rg [4,5,12,13,14] [4,12] [(4,.elm 4 0 1 0),(5,vb o4.1),(12,.elm 12 0 1 0),(13,vi o4.2),(14,vi (IntKind.wrap .i64 (v14+1)))] [(4,138,[rc25 b4]),(12,138,[rc25 b12])] (kt [4,5,12,13,14] [4,12] [(4,.elm 4 0 1 0),(5,vb o4.1),(12,.elm 12 0 1 0),(13,vi o4.2),(14,vi (IntKind.wrap .i64 (v14+1)))] [(4,138,[rc25 b4]),(12,138,[rc25 b12])] (To.again ?_)))))
   exact ih o4.1 o4.2 (IntKind.wrap .i64 (v14+1)) _ h hQ
  ·refine Wp.exit (To.aK (To.aK (kt [5,13] [] [(5,vb v5),(13,vi v13)] [] ?_)))
   cases h
   exact hQ
def rG(n:Nat)(a0:Bs):Option (Int×Int) :=
 if((List.length a0:Int)==0)=true then(some (0,3))
 else((kZ n n a0 false (-1) (List.replicate 4 0)).bind fun o1 =>
 (Sum.elim (fun o1=>(oQ n).bind fun r2 =>
 if(decide (List.length r2=4))=true then((dW n o1.2 r2 n o1.1 0 0).bind fun o4 =>
 if(bif o4.1 then true else(decide (o4.2>1099511627776)))=true then(some (0,9))
 else(some (o4.2,0))) else none) (fun o1=>some (o1.1,o1.2))) o1)
theorem Ir(n:Nat)(a0:Bs)(r:Int×Int)(h:rG n a0=some r):aJ Tryz.prog 125 [.str a0] (.tup [vi r.1,vi r.2]):=by
 unfold rG at h
 refine xo Tryz.f125 rfl fun F0 w0 _=>?_
 refine Wp.seq (rg [0] [] [(0,.str a0)] [] (To.ah (Wp.seq (rg [0,4] [4] [(0,.str a0),(4,.own 4 0)] [(4,138,[vi 0,vi 0,vi 0,vi 0])] (To.pre (St.Ce (t:=138) (l:=(List.replicate 4 0)) 4 1 4 (by decide) (by decide) (tH _) (by kernel_rfl) (by kernel_rfl) (by kernel_rfl) (by kernel_rfl) (K':=[(0,.str a0),(4,.elm 4 0 1 0)]) (L':=[(4,138,[rc25 (List.replicate 4 0)])]) (by kernel_rfl) (by kernel_rfl)) (To.ah (Wp.seq (rg [0,4,5] [4] [(0,.str a0),(4,.elm 4 0 1 0),(5,vb false)] [(4,138,[rc25 (List.replicate 4 0)])] (To.ah (Wp.seq ?_))))))))))
 refine rg [0,4,5,6] [4] [(0,.str a0),(4,.elm 4 0 1 0),(5,vb false),(6,vi (-1))] [(4,138,[rc25 (List.replicate 4 0)])] (To.ah (Wp.seq (Wp.seq (rg [0,4,5,6,17] [4] [(0,.str a0),(4,.elm 4 0 1 0),(5,vb false),(6,vi (-1)),(17,vb ((List.length a0:Int)==0))] [(4,138,[rc25 (List.replicate 4 0)])] (To.ah (cn h (fun h=>?_) (fun h=>?_)))))))
 ·refine Wp.seq (rg [2,3] [] [(2,vi 0),(3,vi 3)] [] (To.ah (Wp.ret (To.aA ?_))))
  cases h
  exact To.done hΓ (by kernel_rfl)
 ·refine Wp.skip (To.ah (Wp.seq (Wp.block ?_)))
  obtain⟨o1,ho1,h⟩:=au h
  refine kw [0,4,5,6] [4] [(0,.str a0),(4,.elm 4 0 1 0),(5,vb false),(6,vi (-1))] [(4,138,[rc25 (List.replicate 4 0)])] (Wp.bC (CU n n a0 false (-1) (List.replicate 4 0) o1 ho1 ?_))
  rcases o1 with o1|o1
  ·replace h:=cy h
   refine To.aX (To.ah (Wp.seq ?_))
   obtain⟨r2,hr2,h⟩:=au h
   obtain⟨u3,h⟩:=ax h
   refine rr [] [(0,.arr (α:=Int) 0 wh r2),(2,wS r2)] [] [4,5,12] [4,12] [(4,.elm 4 0 1 0),(5,vb o1.1),(12,.elm 12 0 1 0)] [(4,138,[rc25 o1.2]),(12,138,[rc25 r2])] [_,(bY 1 (D.cells (.arr (α:=Int) 0 wh r2)) 4 (wS r2)/\aM (wS r2))] (ai.cons (c1 (yp n  _ hr2)) (ai.cons (df rfl (of_decide_eq_true u3) rfl (tH _)) ai.nil)) (To.ah (Wp.seq (rg [4,5,12,13] [4,12] [(4,.elm 4 0 1 0),(5,vb o1.1),(12,.elm 12 0 1 0),(13,vi 0)] [(4,138,[rc25 o1.2]),(12,138,[rc25 r2])] (To.ah (Wp.seq (Wp.seq (rg [4,5,12,13,14] [4,12] [(4,.elm 4 0 1 0),(5,vb o1.1),(12,.elm 12 0 1 0),(13,vi 0),(14,vi 0)] [(4,138,[rc25 o1.2]),(12,138,[rc25 r2])] (To.ah (Wp.block ?_)))))))))
   obtain⟨o4,ho4,h⟩:=au h
   refine kw [4,5,12,13,14] [4,12] [(4,.elm 4 0 1 0),(5,vb o1.1),(12,.elm 12 0 1 0),(13,vi 0),(14,vi 0)] [(4,138,[rc25 o1.2]),(12,138,[rc25 r2])] (Wp.bC (C9 n o1.2 r2 n o1.1 0 0 o4 ho4 (To.aX (To.ah (Wp.seq (Wp.seq (rg [13,85] [] [(13,vi o4.2),(85,vb (bif o4.1 then true else(decide (o4.2>1099511627776))))] [] (To.ah (cn h (fun h=>?_) (fun h=>?_))))))))))
   ·refine Wp.seq (rg [2,3] [] [(2,vi 0),(3,vi 9)] [] (To.ah (Wp.ret (To.aA ?_))))
    cases h
    exact To.done hΓ (by kernel_rfl)
   ·refine Wp.skip (To.ah (Wp.seq (rg [2,3] [] [(2,vi o4.2),(3,vi 0)] [] (To.ah (Wp.ret ?_)))))
    cases h
    exact To.done hΓ (by kernel_rfl)
  ·replace h:=cH h
   refine To.aQ (To.aA ?_)
   cases h
   exact To.done hΓ (by kernel_rfl)
def u7(n:Nat):Option ((Ls)) :=
 if(decide (List.length (List.replicate 4 ([]:Bs))=4))=true then(if(decide (List.length ([[104],[109],[115],[109,115]]:Ls)=4))=true then some ([[104],[109],[115],[109,115]]:Ls) else none) else none
theorem Ik(n:Nat)(r:(Ls))(h:u7 n=some r):aJ Tryz.prog 136 [] (.arr (α:=Bs) [] aR r):=by
 unfold u7 at h
 refine xo Tryz.f136 rfl fun F0 w0 _=>?_
 refine Wp.seq (rg [0] [0] [(0,.own 0 0)] [(0,142,[.str [],.str [],.str [],.str []])] (To.pre (St.Ce (t:=142) (l:=(List.replicate 4 ([]:Bs))) 0 1 4 (by decide) (by decide) (aH _) (by kernel_rfl) (by kernel_rfl) (by kernel_rfl) (by kernel_rfl) (K':=[(0,.elm 0 0 1 0)]) (L':=[(0,142,[rc1 (List.replicate 4 ([]:Bs))])]) (by kernel_rfl) (by kernel_rfl)) (To.ah (Wp.seq ?_))))
 obtain⟨hc2,h⟩:=ax h
 refine rr [] [(1,ls ([[104],[109],[115],[109,115]]:Ls))] [] [0] [0] [(0,.elm 0 0 1 0)] [(0,142,[rc1 ([[104],[109],[115],[109,115]]:Ls)])] [_,(bY 1 (D.cells (.agg [.str [104],.str [109],.str [115],.str [109,115]])) 4 (ls ([[104],[109],[115],[109,115]]:Ls))/\aM (ls ([[104],[109],[115],[109,115]]:Ls)))] (ai.cons hc2 (ai.cons (df (by kernel_rfl) rfl (by kernel_rfl) (aH _)) ai.nil)) (To.ah (Wp.ret ?_))
 obtain⟨hc1,h⟩:=ax h
 cases h
 exact To.SC hΓ (by kernel_rfl) hc1
def rS(n:Nat)(v0:Int)(v3:Bs)(v6:Int)(v26:Bool)(b4:List (Int))(b5:Ls):Option (Bs) :=
 if v26=true then(if(decide (0<=v6/\v6<(4:Int)))=true then(if(decide (0<=v6/\v6<(List.length b4:Int)))=true then(if((((b4)[Int.toNat v6]?.getD 0) != 0))=true then((fu n (IntKind.wrap .i64 (Int.tdiv v0 ((b4)[Int.toNat v6]?.getD 0)))).bind fun r5 =>
 if(decide (((List.length v3+List.length r5:Nat):Int)<=9223372036854775807))=true then(if(decide (0<=v6/\v6<(List.length b5:Int)))=true then(if(decide (((List.length (v3++r5)+List.length ((b5)[Int.toNat v6]?.getD []):Nat):Int)<=9223372036854775807))=true then(some ((v3++r5)++((b5)[Int.toNat v6]?.getD []))) else none) else none) else none) else none) else none) else none)
 else some v3
abbrev Lr(x0:Int)(x1:List (Int))(x2:Int):=(IntKind.wrap .i64 (Int.tdiv x0 ((x1)[Int.toNat x2]?.getD 0)))
theorem EW(n:Nat)(v0:Int)(v3:Bs)(v6:Int)(v26:Bool)(b4:List (Int))(b5:Ls)(o:Bs)(h:rS n v0 v3 v6 v26 b4 b5=some o)(hQ:To 45 F0 w0 [(0,vi v0),(3,.str o),(4,.elm 4 0 1 0),(5,.elm 5 0 1 0),(6,vi v6)] [(4,138,[rc25 b4]),(5,142,[rc1 b5])] .normal Q):Wp Tryz.prog 45 F0 w0 [(0,vi v0),(3,.str v3),(4,.elm 4 0 1 0),(5,.elm 5 0 1 0),(6,vi v6),(26,vb v26)] [(4,138,[rc25 b4]),(5,142,[rc1 b5])] (cB (cA (cI (cA (cB (cI (cI (cB (cA (cB (cB (cB (cB (cB (cB (cF Tryz.f126)))))))))))))))) Q:=by
 unfold rS at h
 refine cn h (fun h=>?_) (fun h=>?_)
 ·obtain⟨hc6,h⟩:=ax h
  obtain⟨hc7,h⟩:=ax h
  obtain⟨hc8,h⟩:=ax h
  obtain⟨r5,hr5,h⟩:=au h
  obtain⟨hc9,h⟩:=ax h
  obtain⟨hc10,h⟩:=ax h
  obtain⟨hc11,h⟩:=ax h
  refine Wp.bG hm hΓ [(6,.str r5)] [0,3,4,5,6] [4,5] (K':=[(0,vi v0),(3,.str ((v3++r5)++((b5)[Int.toNat v6]?.getD []))),(4,.elm 4 0 1 0),(5,.elm 5 0 1 0),(6,vi v6)]) (L':=[(4,138,[rc25 b4]),(5,142,[rc1 b5])]) (ob:=[(IG v6)=true,(L6 v6 b4)=true,((((b4)[Int.toNat v6]?.getD 0) != 0))=true,(true=true->CX Tryz.prog 106 [vi (Lr v0 b4 v6)] (.str r5)),(decide (((List.length v3+List.length r5:Nat):Int)<=9223372036854775807))=true,(IG v6)=true,(xZ v6 b5)=true,(decide (((List.length (v3++r5)+List.length ((b5)[Int.toNat v6]?.getD []):Nat):Int)<=9223372036854775807))=true]) (by kernel_rfl) (ai.cons hc6 (ai.cons hc7 (ai.cons hc8 (ai.cons (fun _=>cx (oC n (Lr v0 b4 v6) _ hr5)) (ai.cons hc9 (ai.cons hc6 (ai.cons hc10 (ai.cons hc11 ai.nil)))))))) (kt [0,3,4,5,6] [4,5] [(0,vi v0),(3,.str ((v3++r5)++((b5)[Int.toNat v6]?.getD []))),(4,.elm 4 0 1 0),(5,.elm 5 0 1 0),(6,vi v6)] [(4,138,[rc25 b4]),(5,142,[rc1 b5])] ?_)
  cases h
  exact hQ
 ·refine Wp.skip (kt [0,3,4,5,6] [4,5] [(0,vi v0),(3,.str v3),(4,.elm 4 0 1 0),(5,.elm 5 0 1 0),(6,vi v6)] [(4,138,[rc25 b4]),(5,142,[rc1 b5])] ?_)
  cases h
  exact hQ
def rX(n:Nat)(v0:Int)(v3:Bs)(v6:Int)(b4:List (Int))(b5:Ls):Option (Int×Bs) :=
 if(decide (0<=v6/\v6<(4:Int)))=true then(if(decide (0<=v6/\v6<(List.length b4:Int)))=true then(if((((b4)[Int.toNat v6]?.getD 0) != 0))=true then((rS n v0 v3 v6 (decide ((IntKind.wrap .i64 (Int.tdiv v0 ((b4)[Int.toNat v6]?.getD 0)))>0)) b4 b5).bind fun o5 =>
 if(decide (0<=v6/\v6<(4:Int)))=true then(if(decide (0<=v6/\v6<(List.length b4:Int)))=true then(if((((b4)[Int.toNat v6]?.getD 0) != 0))=true then(some ((Int.tmod v0 ((b4)[Int.toNat v6]?.getD 0)),o5)) else none) else none) else none) else none) else none) else none
theorem E0(n:Nat)(v0:Int)(v3:Bs)(v6:Int)(b4:List (Int))(b5:Ls)(o:Int×Bs)(h:rX n v0 v3 v6 b4 b5=some o)(hQ:To 45 F0 w0 [(0,vi o.1),(3,.str o.2),(4,.elm 4 0 1 0),(5,.elm 5 0 1 0),(6,vi v6)] [(4,138,[rc25 b4]),(5,142,[rc1 b5])] .normal Q):Wp Tryz.prog 45 F0 w0 [(0,vi v0),(3,.str v3),(4,.elm 4 0 1 0),(5,.elm 5 0 1 0),(6,vi v6)] [(4,138,[rc25 b4]),(5,142,[rc1 b5])] (cA (cB (cI (cI (cB (cA (cB (cB (cB (cB (cB (cB (cF Tryz.f126))))))))))))) Q:=by
 unfold rX at h
 refine Wp.block (Wp.seq (Wp.seq ?_))
 obtain⟨hc9,h⟩:=ax h
 obtain⟨hc10,h⟩:=ax h
 obtain⟨hc11,h⟩:=ax h
 refine r0 [0,3,4,5,6,26] [4,5] [(0,vi v0),(3,.str v3),(4,.elm 4 0 1 0),(5,.elm 5 0 1 0),(6,vi v6),(26,vb (decide ((Lr v0 b4 v6)>0)))] [(4,138,[rc25 b4]),(5,142,[rc1 b5])] (ai.cons hc9 (ai.cons hc10 (ai.cons hc11 ai.nil))) (To.ah ?_)
 obtain⟨o5,ho5,h⟩:=au h
 refine kw [0,3,4,5,6,26] [4,5] [(0,vi v0),(3,.str v3),(4,.elm 4 0 1 0),(5,.elm 5 0 1 0),(6,vi v6),(26,vb (decide ((Lr v0 b4 v6)>0)))] [(4,138,[rc25 b4]),(5,142,[rc1 b5])] (EW n v0 v3 v6 (decide ((Lr v0 b4 v6)>0)) b4 b5 o5 ho5 (To.ah ?_))
 obtain⟨hc6,h⟩:=ax h
 obtain⟨hc7,h⟩:=ax h
 obtain⟨hc8,h⟩:=ax h
 refine r0 [0,3,4,5,6] [4,5] [(0,vi (Int.tmod v0 ((b4)[Int.toNat v6]?.getD 0))),(3,.str o5),(4,.elm 4 0 1 0),(5,.elm 5 0 1 0),(6,vi v6)] [(4,138,[rc25 b4]),(5,142,[rc1 b5])] (ai.cons hc6 (ai.cons hc7 (ai.cons hc8 ai.nil))) (To.aO ?_)
 cases h
 exact hQ
def gu(n:Nat)(b4:List (Int))(b5:Ls):Nat->Int->Bs->Int->Option (Bs)
 |0,_,_,_=>none
 |k+1,v0,v3,v6=>if(decide (v6<4))=true then((rX n v0 v3 v6 b4 b5).bind fun o5 =>
 gu n b4 b5 k o5.1 o5.2 (IntKind.wrap .i64 (v6+1)))
 else some v3
theorem FD(n:Nat)(b4:List (Int))(b5:Ls)(k:Nat):∀(v0:Int)(v3:Bs)(v6:Int)(o:Bs),gu n b4 b5 k v0 v3 v6=some o->To 45 F0 w0 [(3,.str o)] [] (.exit 0) Q->WL Tryz.prog 45 F0 w0 [(0,vi v0),(3,.str v3),(4,.elm 4 0 1 0),(5,.elm 5 0 1 0),(6,vi v6)] [(4,138,[rc25 b4]),(5,142,[rc1 b5])] (cI (cI (cB (cA (cB (cB (cB (cB (cB (cB (cF Tryz.f126))))))))))) Q:=by
 induction k with
 |zero=>intro v0 v3 v6 o h;cases h
 |succ k ih =>
  intro v0 v3 v6 o h hQ
  rw[gu] at h
  refine WL.round (Wp.seq (Wp.seq (rg [0,3,4,5,6,18] [4,5] [(0,vi v0),(3,.str v3),(4,.elm 4 0 1 0),(5,.elm 5 0 1 0),(6,vi v6),(18,vb (decide (v6<4)))] [(4,138,[rc25 b4]),(5,142,[rc1 b5])] (To.ah (cn h (fun h=>?_) (fun h=>?_))))))
  ·refine Wp.skip (To.ah (Wp.seq ?_))
   obtain⟨o5,ho5,h⟩:=au h
   refine kw [0,3,4,5,6] [4,5] [(0,vi v0),(3,.str v3),(4,.elm 4 0 1 0),(5,.elm 5 0 1 0),(6,vi v6)] [(4,138,[rc25 b4]),(5,142,[rc1 b5])] (E0 n v0 v3 v6 b4 b5 o5 ho5 (To.ah (rg [0,3,4,5,6] [4,5] [(0,vi o5.1),(3,.str o5.2),(4,.elm 4 0 1 0),(5,.elm 5 0 1 0),(qh v6)] [(4,138,[rc25 b4]),(5,142,[rc1 b5])] (kt [0,3,4,5,6] [4,5] [(0,vi o5.1),(3,.str o5.2),(4,.elm 4 0 1 0),(5,.elm 5 0 1 0),(qh v6)] [(4,138,[rc25 b4]),(5,142,[rc1 b5])] (To.again ?_)))))
   exact ih o5.1 o5.2 (IntKind.wrap .i64 (v6+1)) _ h hQ
  ·refine Wp.exit (To.aK (To.aK (kt [3] [] [(3,.str v3)] [] ?_)))
   cases h
   exact hQ
def sR(n:Nat)(a0:Int):Option (Bs) :=
 if(bif (decide (a0<0)) then true else(decide (a0>1099511627776)))=true then(some [])
 else(if(a0==0)=true then(some [48,115])
 else((oQ n).bind fun r1 =>
 if(decide (List.length r1=4))=true then((u7 n).bind fun r3 =>
 if(decide (List.length r3=4))=true then((gu n r1 r3 n a0 [] 0).bind fun o5 =>
 some o5) else none) else none))
theorem JO(n:Nat)(a0:Int)(r:Bs)(h:sR n a0=some r):aJ Tryz.prog 126 [vi a0] (.str r):=by
 unfold sR at h
 refine xo Tryz.f126 rfl fun F0 w0 _=>?_
 refine Wp.seq (rg [0] [] [(0,vi a0)] [] (To.ah (Wp.seq (Wp.seq (rg [0,12] [] [(0,vi a0),(12,vb (bif (decide (a0<0)) then true else(decide (a0>1099511627776))))] [] (To.ah (cn h (fun h=>?_) (fun h=>?_))))))))
 ·refine Wp.seq (rg [2] [] [(2,.str [])] [] (To.ah (Wp.ret (To.aA ?_))))
  cases h
  exact To.done hΓ (by kernel_rfl)
 ·refine Wp.skip (To.ah (Wp.seq (Wp.seq (rg [0,14] [] [(0,vi a0),(14,vb (a0==0))] [] (To.ah (cn h (fun h=>?_) (fun h=>?_)))))))
  ·refine Wp.seq (rg [2] [] [(2,.str [48,115])] [] (To.ah (Wp.ret (To.aA ?_))))
   cases h
   exact To.done hΓ (by kernel_rfl)
  ·refine Wp.skip (To.ah (Wp.seq (rg [0,3] [] [(0,vi a0),(3,.str [])] [] (To.ah (Wp.seq ?_)))))
   obtain⟨r1,hr1,h⟩:=au h
   obtain⟨u2,h⟩:=ax h
   refine rr [] [(0,.arr (α:=Int) 0 wh r1),(2,wS r1)] [] [0,3,4] [4] [(0,vi a0),(3,.str []),(4,.elm 4 0 1 0)] [(4,138,[rc25 r1])] [_,(bY 1 (D.cells (.arr (α:=Int) 0 wh r1)) 4 (wS r1)/\aM (wS r1))] (ai.cons (c1 (yp n  _ hr1)) (ai.cons (df rfl (of_decide_eq_true u2) rfl (tH _)) ai.nil)) (To.ah (Wp.seq ?_))
   obtain⟨r3,hr3,h⟩:=au h
   obtain⟨u4,h⟩:=ax h
   refine rr [] [(0,.arr (α:=Bs) [] aR r3),(2,ls r3)] [] [0,3,4,5] [4,5] [(0,vi a0),(3,.str []),(4,.elm 4 0 1 0),(5,.elm 5 0 1 0)] [(4,138,[rc25 r1]),(5,142,[rc1 r3])] [_,(bY 1 (D.cells (.arr (α:=Bs) [] aR r3)) 4 (ls r3)/\aM (ls r3))] (ai.cons (c1 (Ik n  _ hr3)) (ai.cons (df rfl (of_decide_eq_true u4) rfl (aH _)) ai.nil)) (To.ah (Wp.seq (Wp.seq (rg [0,3,4,5,6] [4,5] [(0,vi a0),(3,.str []),(4,.elm 4 0 1 0),(5,.elm 5 0 1 0),(6,vi 0)] [(4,138,[rc25 r1]),(5,142,[rc1 r3])] (To.ah (Wp.block ?_))))))
   obtain⟨o5,ho5,h⟩:=au h
   refine kw [0,3,4,5,6] [4,5] [(0,vi a0),(3,.str []),(4,.elm 4 0 1 0),(5,.elm 5 0 1 0),(6,vi 0)] [(4,138,[rc25 r1]),(5,142,[rc1 r3])] (Wp.bC (FD n r1 r3 n a0 [] 0 o5 ho5 (To.aX (To.ah (Wp.seq (rg [2] [] [(2,.str o5)] [] (To.ah (Wp.ret ?_))))))))
   cases h
   exact To.done hΓ (by kernel_rfl)
def qq(n:Nat)(a0:af)(a1:Bs)(a2:Int):Option (Bs×Bool) :=
 (jI n a0 a1).bind fun r1 =>
 if(!r1.2)=true then(some ([],true))
 else((eX n a0 a1 []).bind fun r2 =>
 (rG n r2.1).bind fun r3 =>
 (sR n r3.1).bind fun r4 =>
 some (r4,(bif (bif r2.2 then(r3.2==0) else false) then(decide (r3.1>=a2)) else false)))
theorem zA(n:Nat)(a0:af)(a1:Bs)(a2:Int)(r:Bs×Bool)(h:qq n a0 a1 a2=some r):aJ Tryz.prog 104 [.agg (qc6 a0),.str a1,vi a2] (.tup [.str r.1,vb r.2]):=by
 unfold qq at h
 refine xo Tryz.f104 rfl fun F0 w0 _=>?_
 refine Wp.seq (rg [1,2,3] [3] [(1,.str a1),(2,vi a2),(3,.own 3 0)] [(3,25,qc6 a0)] (To.ah (Wp.seq ?_)))
 obtain⟨r1,hr1,h⟩:=au h
 refine rc [] 2 [1,2,3,9] [3] [(1,.str a1),(2,vi a2),(3,.own 3 0),(9,vb r1.2)] [(3,25,qc6 a0)] (j6 n a0 a1 _ hr1) (To.ah (Wp.seq (Wp.seq (rg [1,2,3,21] [3] [(1,.str a1),(2,vi a2),(3,.own 3 0),(21,vb (!r1.2))] [(3,25,qc6 a0)] (To.ah (cn h (fun h=>?_) (fun h=>?_)))))))
 ·refine Wp.seq (rg [6,7] [] [(6,.str []),(7,vb true)] [] (To.ah (Wp.ret (To.aA ?_))))
  cases h
  exact To.done hΓ (by kernel_rfl)
 ·refine Wp.skip (To.ah (Wp.seq ?_))
  obtain⟨r2,hr2,h⟩:=au h
  refine rc [] 2 [2,10,11] [] [(2,vi a2),(10,.str r2.1),(11,vb r2.2)] [] (fD n a0 a1 [] _ hr2) (To.ah (Wp.seq ?_))
  obtain⟨r3,hr3,h⟩:=au h
  refine rc [] 1 [2,11,12,13] [] [(2,vi a2),(11,vb r2.2),(12,vi r3.1),(13,vi r3.2)] [] (Ir n r2.1 _ hr3) (To.ah (Wp.seq ?_))
  obtain⟨r4,hr4,h⟩:=au h
  refine rc [] 1 [6,7] [] [(6,.str r4),(7,vb (bif (bif r2.2 then(r3.2==0) else false) then(decide (r3.1>=a2)) else false))] [] (JO n r3.1 _ hr4) (To.ah (Wp.ret ?_))
  cases h
  exact To.done hΓ (by kernel_rfl)
def lX(n:Nat)(v5:Bs)(v6:Bool)(v9:Bs)(v43:Bool)(b1:af)(b2:af)(b4:af):Option (Bs) :=
 if v43=true then(some nV)
 else some v5
theorem As(n:Nat)(v5:Bs)(v6:Bool)(v9:Bs)(v43:Bool)(b1:af)(b2:af)(b4:af)(o:Bs)(h:lX n v5 v6 v9 v43 b1 b2 b4=some o)(hQ:To 111 F0 w0 [(1,.own 1 0),(2,.own 2 0),(4,.own 4 0),(5,.str o),(6,vb v6),(9,.str v9)] [(1,25,qc6 b1),(2,25,qc6 b2),(4,25,qc6 b4)] .normal Q):Wp Tryz.prog 111 F0 w0 [(1,.own 1 0),(2,.own 2 0),(4,.own 4 0),(5,.str v5),(6,vb v6),(9,.str v9),(43,vb v43)] [(1,25,qc6 b1),(2,25,qc6 b2),(4,25,qc6 b4)] (cB (cA (cB (cB (cT (cB (cA (cB (cB (cB (cB (cB (cF Tryz.f76))))))))))))) Q:=by
 unfold lX at h
 refine cn h (fun h=>?_) (fun h=>?_)
 ·refine rg [1,2,4,5,6,9] [1,2,4] [(1,.own 1 0),(2,.own 2 0),(4,.own 4 0),(5,.str nV),(6,vb v6),(9,.str v9)] [(1,25,qc6 b1),(2,25,qc6 b2),(4,25,qc6 b4)] (kt [1,2,4,5,6,9] [1,2,4] [(1,.own 1 0),(2,.own 2 0),(4,.own 4 0),(5,.str nV),(6,vb v6),(9,.str v9)] [(1,25,qc6 b1),(2,25,qc6 b2),(4,25,qc6 b4)] ?_)
  cases h
  exact hQ
 ·refine Wp.skip (kt [1,2,4,5,6,9] [1,2,4] [(1,.own 1 0),(2,.own 2 0),(4,.own 4 0),(5,.str v5),(6,vb v6),(9,.str v9)] [(1,25,qc6 b1),(2,25,qc6 b2),(4,25,qc6 b4)] ?_)
  cases h
  exact hQ
def mq(n:Nat)(v5:Bs)(v6:Bool)(v33:Bool)(b1:af)(b2:af)(b4:af)(b7:af):Option (Sum (Bs×af×af) (Bool×af)) :=
 if v33=true then((uA n b7).bind fun r4 =>
 if(r4.2==0)=true then(some (.inr (false,(af.mk 0 [] [] []))))
 else((lX n v5 v6 r4.1 (r4.2==2) b1 b2 b4).bind fun o5 =>
 aS (dB r4.1) fun r6 =>
 (dA n b4 uq r6).bind fun r7 =>
 some (.inl (o5,b2,r7))))
 else(some (.inl (v5,b2,b4)))
theorem Bq(n:Nat)(v5:Bs)(v6:Bool)(v33:Bool)(b1:af)(b2:af)(b4:af)(b7:af)(o:Sum (Bs×af×af) (Bool×af))(h:mq n v5 v6 v33 b1 b2 b4 b7=some o)(hQ:(Sum.elim (fun s=>To 111 F0 w0 [(1,.own 1 0),(2,.own 2 0),(4,.own 4 0),(5,.str s.1),(6,vb v6)] [(1,25,qc6 b1),(2,25,qc6 s.2.1),(4,25,qc6 s.2.2)] .normal Q) (fun s=>To 111 F0 w0 [(2,.own 2 0),(3,vb s.1)] [(2,25,qc6 s.2)] .ret Q)) o):Wp Tryz.prog 111 F0 w0 [(1,.own 1 0),(2,.own 2 0),(4,.own 4 0),(5,.str v5),(6,vb v6),(7,.own 7 0),(33,vb v33)] [(1,25,qc6 b1),(2,25,qc6 b2),(4,25,qc6 b4),(7,25,qc6 b7)] (cB (cA (cB (cB (cB (cB (cB (cF Tryz.f76)))))))) Q:=by
 unfold mq at h
 refine cn h (fun h=>?_) (fun h=>?_)
 ·refine Wp.seq ?_
  obtain⟨r4,hr4,h⟩:=au h
  refine rc [] 1 [1,2,4,5,6,9,10] [1,2,4] [(1,.own 1 0),(2,.own 2 0),(4,.own 4 0),(5,.str v5),(6,vb v6),(9,.str r4.1),(10,vi r4.2)] [(1,25,qc6 b1),(2,25,qc6 b2),(4,25,qc6 b4)] (J9 n b7 _ hr4) (To.ah (Wp.seq (Wp.seq (rg [1,2,4,5,6,9,10,40] [1,2,4] [(1,.own 1 0),(2,.own 2 0),(4,.own 4 0),(5,.str v5),(6,vb v6),(9,.str r4.1),(10,vi r4.2),(40,vb (r4.2==0))] [(1,25,qc6 b1),(2,25,qc6 b2),(4,25,qc6 b4)] (To.ah (cn h (fun h=>?_) (fun h=>?_)))))))
  ·refine Wp.seq (rg [2,3] [2] [(2,.own 2 0),(3,vb false)] [(2,25,[vi 0,.str [],.val (.slice none 0 0),.val (.slice none 0 0)])] (To.ah (Wp.ret (To.aA (To.weak (K':=[(2,.own 2 0),(3,vb false)]) (L':=[(2,25,[vi 0,.str [],ls [],tn4 []])]) (.cons (.refl _) (.cons (.refl _) .nil)) (.cons (.cons (.refl _) (.cons (.refl _) (.cons (.zero _ _) (.cons (.bu _ _ _) .nil)))) .nil) ?_)))))
   cases h
   exact hQ
  ·refine Wp.skip (To.ah (Wp.seq (Wp.seq (rg [1,2,4,5,6,9,43] [1,2,4] [(1,.own 1 0),(2,.own 2 0),(4,.own 4 0),(5,.str v5),(6,vb v6),(9,.str r4.1),(43,vb (r4.2==2))] [(1,25,qc6 b1),(2,25,qc6 b2),(4,25,qc6 b4)] (To.ah ?_)))))
   obtain⟨o5,ho5,h⟩:=au h
   refine kw [1,2,4,5,6,9,43] [1,2,4] [(1,.own 1 0),(2,.own 2 0),(4,.own 4 0),(5,.str v5),(6,vb v6),(9,.str r4.1),(43,vb (r4.2==2))] [(1,25,qc6 b1),(2,25,qc6 b2),(4,25,qc6 b4)] (As n v5 v6 r4.1 (r4.2==2) b1 b2 b4 o5 ho5 (To.ah ?_))
   obtain⟨r6,hr6,h⟩:=aW h
   obtain⟨r7,hr7,h⟩:=au h
   refine Wp.bG hm hΓ [(2,.agg (qc6 r6)),(3,.agg (qc6 r7))] [1,2,4,5,6] [1,2,4] (K':=[(1,.own 1 0),(2,.own 2 0),(4,.own 4 0),(5,.str o5),(6,vb v6)]) (L':=[(1,25,qc6 b1),(2,25,qc6 b2),(4,25,qc6 r7)]) (ob:=[(true=true->CX Tryz.prog 91 [.str r4.1] (.agg (qc6 r6))),(true=true->CX Tryz.prog 30 [.agg (qc6 b4),.str uq,.agg (qc6 r6)] (.agg (qc6 r7)))]) (by kernel_rfl) (ai.cons (fun _=>cx (dN r4.1 _ hr6)) (ai.cons (fun _=>cx (dH n b4 uq r6 _ hr7)) ai.nil)) (kt [1,2,4,5,6] [1,2,4] [(1,.own 1 0),(2,.own 2 0),(4,.own 4 0),(5,.str o5),(6,vb v6)] [(1,25,qc6 b1),(2,25,qc6 b2),(4,25,qc6 r7)] ?_)
   cases h
   exact hQ
 ·refine Wp.skip (kt [1,2,4,5,6] [1,2,4] [(1,.own 1 0),(2,.own 2 0),(4,.own 4 0),(5,.str v5),(6,vb v6)] [(1,25,qc6 b1),(2,25,qc6 b2),(4,25,qc6 b4)] ?_)
  cases h
  exact hQ
def l5(n:Nat)(v11:Bs)(v13:Bs)(v15:Int)(v89:Bool)(b2:af)(b4:af):Option (af) :=
 if v89=true then(aS (dB v11) fun r10 =>
 (dA n b4 tG r10).bind fun r11 =>
 some r11)
 else some b4
theorem Bm(n:Nat)(v11:Bs)(v13:Bs)(v15:Int)(v89:Bool)(b2:af)(b4:af)(o:af)(h:l5 n v11 v13 v15 v89 b2 b4=some o)(hQ:To 111 F0 w0 [(2,.own 2 0),(4,.own 4 0),(13,.str v13),(15,vi v15)] [(2,25,qc6 b2),(4,25,qc6 o)] .normal Q):Wp Tryz.prog 111 F0 w0 [(2,.own 2 0),(4,.own 4 0),(11,.str v11),(13,.str v13),(15,vi v15),(89,vb v89)] [(2,25,qc6 b2),(4,25,qc6 b4)] (cB (cA (cB (cB (cB (cB (cB (cB (cB (cB (cB (cB (cB (cF Tryz.f76)))))))))))))) Q:=by
 unfold l5 at h
 refine cn h (fun h=>?_) (fun h=>?_)
 ·obtain⟨r10,hr10,h⟩:=aW h
  obtain⟨r11,hr11,h⟩:=au h
  refine Wp.bG hm hΓ [(2,.agg (qc6 r10)),(3,.agg (qc6 r11))] [2,4,13,15] [2,4] (K':=[(2,.own 2 0),(4,.own 4 0),(13,.str v13),(15,vi v15)]) (L':=[(2,25,qc6 b2),(4,25,qc6 r11)]) (ob:=[(true=true->CX Tryz.prog 91 [.str v11] (.agg (qc6 r10))),(true=true->CX Tryz.prog 30 [.agg (qc6 b4),.str tG,.agg (qc6 r10)] (.agg (qc6 r11)))]) (by kernel_rfl) (ai.cons (fun _=>cx (dN v11 _ hr10)) (ai.cons (fun _=>cx (dH n b4 tG r10 _ hr11)) ai.nil)) (kt [2,4,13,15] [2,4] [(2,.own 2 0),(4,.own 4 0),(13,.str v13),(15,vi v15)] [(2,25,qc6 b2),(4,25,qc6 r11)] ?_)
  cases h
  exact hQ
 ·refine Wp.skip (kt [2,4,13,15] [2,4] [(2,.own 2 0),(4,.own 4 0),(13,.str v13),(15,vi v15)] [(2,25,qc6 b2),(4,25,qc6 b4)] ?_)
  cases h
  exact hQ
def mC(n:Nat)(v13:Bs)(v15:Int)(v95:Bool)(b2:af)(b4:af):Option (af) :=
 if v95=true then(aS (dB v13) fun r11 =>
 (dA n b4 sV r11).bind fun r12 =>
 some r12)
 else some b4
theorem Aw(n:Nat)(v13:Bs)(v15:Int)(v95:Bool)(b2:af)(b4:af)(o:af)(h:mC n v13 v15 v95 b2 b4=some o)(hQ:To 111 F0 w0 [(2,.own 2 0),(4,.own 4 0),(15,vi v15)] [(2,25,qc6 b2),(4,25,qc6 o)] .normal Q):Wp Tryz.prog 111 F0 w0 [(2,.own 2 0),(4,.own 4 0),(13,.str v13),(15,vi v15),(95,vb v95)] [(2,25,qc6 b2),(4,25,qc6 b4)] (cB (cA (cB (cB (cB (cB (cB (cB (cB (cB (cB (cB (cB (cB (cF Tryz.f76))))))))))))))) Q:=by
 unfold mC at h
 refine cn h (fun h=>?_) (fun h=>?_)
 ·obtain⟨r11,hr11,h⟩:=aW h
  obtain⟨r12,hr12,h⟩:=au h
  refine Wp.bG hm hΓ [(2,.agg (qc6 r11)),(3,.agg (qc6 r12))] [2,4,15] [2,4] (K':=[(2,.own 2 0),(4,.own 4 0),(15,vi v15)]) (L':=[(2,25,qc6 b2),(4,25,qc6 r12)]) (ob:=[(true=true->CX Tryz.prog 91 [.str v13] (.agg (qc6 r11))),(true=true->CX Tryz.prog 30 [.agg (qc6 b4),.str sV,.agg (qc6 r11)] (.agg (qc6 r12)))]) (by kernel_rfl) (ai.cons (fun _=>cx (dN v13 _ hr11)) (ai.cons (fun _=>cx (dH n b4 sV r11 _ hr12)) ai.nil)) (kt [2,4,15] [2,4] [(2,.own 2 0),(4,.own 4 0),(15,vi v15)] [(2,25,qc6 b2),(4,25,qc6 r12)] ?_)
  cases h
  exact hQ
 ·refine Wp.skip (kt [2,4,15] [2,4] [(2,.own 2 0),(4,.own 4 0),(15,vi v15)] [(2,25,qc6 b2),(4,25,qc6 b4)] ?_)
  cases h
  exact hQ
def mg(n:Nat)(v15:Int)(v101:Bool)(b2:af)(b4:af):Option (af) :=
 if v101=true then((fu n v15).bind fun r12 =>
 aS (dB r12) fun r13 =>
 (dA n b4 uw r13).bind fun r14 =>
 some r14)
 else some b4
theorem Bz(n:Nat)(v15:Int)(v101:Bool)(b2:af)(b4:af)(o:af)(h:mg n v15 v101 b2 b4=some o)(hQ:To 111 F0 w0 [(2,.own 2 0),(4,.own 4 0)] [(2,25,qc6 b2),(4,25,qc6 o)] .normal Q):Wp Tryz.prog 111 F0 w0 [(2,.own 2 0),(4,.own 4 0),(15,vi v15),(101,vb v101)] [(2,25,qc6 b2),(4,25,qc6 b4)] (cB (cA (cB (cB (cB (cB (cB (cB (cB (cB (cB (cB (cB (cB (cB (cF Tryz.f76)))))))))))))))) Q:=by
 unfold mg at h
 refine cn h (fun h=>?_) (fun h=>?_)
 ·obtain⟨r12,hr12,h⟩:=au h
  obtain⟨r13,hr13,h⟩:=aW h
  obtain⟨r14,hr14,h⟩:=au h
  refine Wp.bG hm hΓ [(2,.str r12),(3,.agg (qc6 r13)),(4,.agg (qc6 r14))] [2,4] [2,4] (K':=[(2,.own 2 0),(4,.own 4 0)]) (L':=[(2,25,qc6 b2),(4,25,qc6 r14)]) (ob:=[(true=true->CX Tryz.prog 106 [vi v15] (.str r12)),(true=true->CX Tryz.prog 91 [.str r12] (.agg (qc6 r13))),(true=true->CX Tryz.prog 30 [.agg (qc6 b4),.str uw,.agg (qc6 r13)] (.agg (qc6 r14)))]) (by kernel_rfl) (ai.cons (fun _=>cx (oC n v15 _ hr12)) (ai.cons (fun _=>cx (dN r12 _ hr13)) (ai.cons (fun _=>cx (dH n b4 uw r13 _ hr14)) ai.nil))) (kt [2,4] [2,4] [(2,.own 2 0),(4,.own 4 0)] [(2,25,qc6 b2),(4,25,qc6 r14)] ?_)
  cases h
  exact hQ
 ·refine Wp.skip (kt [2,4] [2,4] [(2,.own 2 0),(4,.own 4 0)] [(2,25,qc6 b2),(4,25,qc6 b4)] ?_)
  cases h
  exact hQ
def pN(n:Nat)(a0:af):Option (af×Bool) :=
 (jB n a0 ([uq,tG,sV,uw,ny])).bind fun r1 =>
 if(!r1)=true then(some ((af.mk 0 [] [] []),false))
 else((kR n a0 ny xN).bind fun r2 =>
 (jI n a0 uq).bind fun r3 =>
 (mq n r2.1 r2.2 r3.2 a0 (af.mk 0 [] [] []) (af.mk 0 [] [] []) r3.1).bind fun o4 =>
 (Sum.elim (fun o4=>(qq n a0 tG 1).bind fun r5 =>
 (qq n a0 sV 0).bind fun r6 =>
 (lH n a0 uw).bind fun r7 =>
 aS ((bif (bif (bif (bif (!r2.2) then true else(!r5.2)) then true else(!r6.2)) then true else(!r7.2)) then true else(decide (r7.1>10))):Bool) fun x8 =>
 if x8=true then(some ((af.mk 0 [] [] []),false))
 else(if(o4.1==nV)=true then(aS (dB nV) fun r9 =>
 some ((af.mk 3 [] ([ny]) [r9]),true))
 else((l5 n r5.1 r6.1 r7.1 (!(r5.1==[])) o4.2.1 o4.2.2).bind fun o10 =>
 (mC n r6.1 r7.1 (!(r6.1==[])) o4.2.1 o10).bind fun o11 =>
 (mg n r7.1 (decide (r7.1>0)) o4.2.1 o11).bind fun o12 =>
 (eO n o12 true).bind fun r13 =>
 some (r13.1,r13.2)))) (fun o4=>some (o4.2,o4.1))) o4)
theorem Hl(n:Nat)(a0:af)(r:af×Bool)(h:pN n a0=some r):aJ Tryz.prog 76 [.agg (qc6 a0)] (.tup [.agg (qc6 r.1),vb r.2]):=by
 unfold pN at h
 refine xo Tryz.f76 rfl fun F0 w0 _=>?_
 refine Wp.seq (rg [1,2] [1,2] [(1,.own 1 0),(2,.own 2 0)] [(1,25,qc6 a0),(2,25,[vi 0,.str [],.val (.slice none 0 0),.val (.slice none 0 0)])] (To.ah (Wp.seq (Wp.seq ?_))))
 obtain⟨r1,hr1,h⟩:=au h
 refine rr [(2,[18])] [(1,ls ([uq,tG,sV,uw,ny])),(2,vb r1)] [] [1,2,20] [1,2] [(1,.own 1 0),(2,.own 2 0),(20,vb (!r1))] [(1,25,qc6 a0),(2,25,[vi 0,.str [],.val (.slice none 0 0),.val (.slice none 0 0)])] [(bY 1 [.str uq,.str tG,.str sV,.str uw,.str ny] 5 (ls ([uq,tG,sV,uw,ny]))/\aM (ls ([uq,tG,sV,uw,ny]))),_] (ai.cons (df (by kernel_rfl) rfl (by kernel_rfl) (aH _)) (ai.cons (c1 (oz n a0 ([uq,tG,sV,uw,ny]) _ hr1)) ai.nil)) (To.ah (cn h (fun h=>?_) (fun h=>?_)))
 ·refine Wp.seq (rg [2,3] [2] [(2,.own 2 0),(3,vb false)] [(2,25,[vi 0,.str [],.val (.slice none 0 0),.val (.slice none 0 0)])] (To.ah (Wp.ret (To.aA (To.weak (K':=[(2,.own 2 0),(3,vb false)]) (L':=[(2,25,[vi 0,.str [],ls [],tn4 []])]) (.cons (.refl _) (.cons (.refl _) .nil)) (.cons (.cons (.refl _) (.cons (.refl _) (.cons (.zero _ _) (.cons (.bu _ _ _) .nil)))) .nil) ?_)))))
  cases h
  exact To.done hΓ (by kernel_rfl)
 ·refine Wp.skip (To.ah (Wp.seq (rg [1,2,4] [1,2,4] [(1,.own 1 0),(2,.own 2 0),(4,.own 4 0)] [(1,25,qc6 a0),(2,25,[vi 0,.str [],.val (.slice none 0 0),.val (.slice none 0 0)]),(4,25,[vi 0,.str [],.val (.slice none 0 0),.val (.slice none 0 0)])] (To.ah (Wp.seq ?_)))))
  obtain⟨r2,hr2,h⟩:=au h
  refine rc [] 1 [1,2,4,5,6] [1,2,4] [(1,.own 1 0),(2,.own 2 0),(4,.own 4 0),(5,.str r2.1),(6,vb r2.2)] [(1,25,qc6 a0),(2,25,[vi 0,.str [],.val (.slice none 0 0),.val (.slice none 0 0)]),(4,25,[vi 0,.str [],.val (.slice none 0 0),.val (.slice none 0 0)])] (qC n a0 ny xN _ hr2) (To.ah (Wp.seq ?_))
  obtain⟨r3,hr3,h⟩:=au h
  refine rc [] 1 [1,2,4,5,6,7,8] [1,2,4,7] [(1,.own 1 0),(2,.own 2 0),(4,.own 4 0),(5,.str r2.1),(6,vb r2.2),(7,.own 7 0),(8,vb r3.2)] [(1,25,qc6 a0),(2,25,[vi 0,.str [],.val (.slice none 0 0),.val (.slice none 0 0)]),(4,25,[vi 0,.str [],.val (.slice none 0 0),.val (.slice none 0 0)]),(7,25,qc6 r3.1)] (j6 n a0 uq _ hr3) (To.ah (Wp.seq (Wp.seq (rg [1,2,4,5,6,7,33] [1,2,4,7] [(1,.own 1 0),(2,.own 2 0),(4,.own 4 0),(5,.str r2.1),(6,vb r2.2),(7,.own 7 0),(33,vb r3.2)] [(1,25,qc6 a0),(2,25,[vi 0,.str [],.val (.slice none 0 0),.val (.slice none 0 0)]),(4,25,[vi 0,.str [],.val (.slice none 0 0),.val (.slice none 0 0)]),(7,25,qc6 r3.1)] (To.ah ?_)))))
  obtain⟨o4,ho4,h⟩:=au h
  refine kw [1,2,4,5,6,7,33] [1,2,4,7] [(1,.own 1 0),(2,.own 2 0),(4,.own 4 0),(5,.str r2.1),(6,vb r2.2),(7,.own 7 0),(33,vb r3.2)] [(1,25,qc6 a0),(2,25,[vi 0,.str [],.val (.slice none 0 0),.val (.slice none 0 0)]),(4,25,[vi 0,.str [],.val (.slice none 0 0),.val (.slice none 0 0)]),(7,25,qc6 r3.1)] (Wp.weak (K':=[(1,.own 1 0),(2,.own 2 0),(4,.own 4 0),(5,.str r2.1),(6,vb r2.2),(7,.own 7 0),(33,vb r3.2)]) (L':=[(1,25,qc6 a0),(2,25,[vi 0,.str [],ls [],tn4 []]),(4,25,[vi 0,.str [],ls [],tn4 []]),(7,25,qc6 r3.1)]) (.cons (.refl _) (.cons (.refl _) (.cons (.refl _) (.cons (.refl _) (.cons (.refl _) (.cons (.refl _) (.cons (.refl _) .nil))))))) (.cons (.cons (.refl _) (.cons (.refl _) (.cons (.refl _) (.cons (.refl _) .nil)))) (.cons (.cons (.refl _) (.cons (.refl _) (.cons (.zero _ _) (.cons (.bu _ _ _) .nil)))) (.cons (.cons (.refl _) (.cons (.refl _) (.cons (.zero _ _) (.cons (.bu _ _ _) .nil)))) (.cons (.cons (.refl _) (.cons (.refl _) (.cons (.refl _) (.cons (.refl _) .nil)))) .nil)))) (Bq n r2.1 r2.2 r3.2 a0 zx3 zx3 r3.1 o4 ho4 ?_))
  rcases o4 with o4|o4
  ·replace h:=cy h
   refine To.ah (Wp.seq ?_)
   obtain⟨r5,hr5,h⟩:=au h
   refine rc [] 1 [1,2,4,5,6,11,12] [1,2,4] [(1,.own 1 0),(2,.own 2 0),(4,.own 4 0),(5,.str o4.1),(6,vb r2.2),(11,.str r5.1),(12,vb r5.2)] [(1,25,qc6 a0),(2,25,qc6 o4.2.1),(4,25,qc6 o4.2.2)] (zA n a0 tG 1 _ hr5) (To.ah (Wp.seq ?_))
   obtain⟨r6,hr6,h⟩:=au h
   refine rc [] 1 [1,2,4,5,6,11,12,13,14] [1,2,4] [(1,.own 1 0),(2,.own 2 0),(4,.own 4 0),(5,.str o4.1),(6,vb r2.2),(11,.str r5.1),(12,vb r5.2),(13,.str r6.1),(14,vb r6.2)] [(1,25,qc6 a0),(2,25,qc6 o4.2.1),(4,25,qc6 o4.2.2)] (zA n a0 sV 0 _ hr6) (To.ah (Wp.seq ?_))
   obtain⟨r7,hr7,h⟩:=au h
   refine rc [] 1 [2,4,5,6,11,12,13,14,15,16] [2,4] [(2,.own 2 0),(4,.own 4 0),(5,.str o4.1),(6,vb r2.2),(11,.str r5.1),(12,vb r5.2),(13,.str r6.1),(14,vb r6.2),(15,vi r7.1),(16,vb r7.2)] [(2,25,qc6 o4.2.1),(4,25,qc6 o4.2.2)] (uo n a0 uw _ hr7) (To.ah (Wp.seq (Wp.seq ?_)))
   obtain⟨x8,hx8,h⟩:=aW h
   refine rg [2,4,5,11,13,15,80] [2,4] [(2,.own 2 0),(4,.own 4 0),(5,.str o4.1),(11,.str r5.1),(13,.str r6.1),(15,vi r7.1),(80,vb (bif (bif (bif (bif (!r2.2) then true else(!r5.2)) then true else(!r6.2)) then true else(!r7.2)) then true else(decide (r7.1>10))))] [(2,25,qc6 o4.2.1),(4,25,qc6 o4.2.2)] (To.eq (K':=[(2,.own 2 0),(4,.own 4 0),(5,.str o4.1),(11,.str r5.1),(13,.str r6.1),(15,vi r7.1),(80,vb x8)]) (L':=[(2,25,qc6 o4.2.1),(4,25,qc6 o4.2.2)]) (by cases hx8;rfl) (by cases hx8;rfl) (To.ah (cn h (fun h=>?_) (fun h=>?_))))
   ·refine Wp.seq (rg [2,3] [2] [(2,.own 2 0),(3,vb false)] [(2,25,[vi 0,.str [],.val (.slice none 0 0),.val (.slice none 0 0)])] (To.ah (Wp.ret (To.aA (To.weak (K':=[(2,.own 2 0),(3,vb false)]) (L':=[(2,25,[vi 0,.str [],ls [],tn4 []])]) (.cons (.refl _) (.cons (.refl _) .nil)) (.cons (.cons (.refl _) (.cons (.refl _) (.cons (.zero _ _) (.cons (.bu _ _ _) .nil)))) .nil) ?_)))))
    cases h
    exact To.done hΓ (by kernel_rfl)
   ·refine Wp.skip (To.ah (Wp.seq (Wp.seq (rg [2,4,11,13,15,83] [2,4] [(2,.own 2 0),(4,.own 4 0),(11,.str r5.1),(13,.str r6.1),(15,vi r7.1),(83,vb (o4.1==nV))] [(2,25,qc6 o4.2.1),(4,25,qc6 o4.2.2)] (To.ah (cn h (fun h=>?_) (fun h=>?_)))))))
    ·refine Wp.seq ?_
     obtain⟨r9,hr9,h⟩:=aW h
     refine rr [] [(0,ls ([ny])),(1,.agg (qc6 r9)),(2,rs8 [r9])] [] [2,3] [2,84,86] [(2,.own 2 0),(3,vb true)] [(2,25,[vi 3,.str [],.row 84,.row 86]),(84,9,[rc1 ([ny])]),(86,25,[rc9 [r9]])] [(bY 1 [.str ny] 1 (ls ([ny]))/\aM (ls ([ny]))),_,(bY 4 (qc6 r9) 1 (rs8 [r9])/\aM (rs8 [r9]))] (ai.cons (df (by kernel_rfl) rfl (by kernel_rfl) (aH _)) (ai.cons (c1 (dN nV _ hr9)) (ai.cons (df (by kernel_rfl) rfl (by kernel_rfl) (aY _)) ai.nil))) (To.ah (Wp.ret (To.aA (To.pre (St.settle (ks:=[84,86]) (kk:=[2,3]) (kl:=[2,84,86]) (K':=[(2,.own 2 0),(3,vb true)]) (L':=[(2,25,[vi 3,.str [],.row 84,.row 86]),(84,9,[rc2 ([ny])]),(86,25,[iC [r9]])]) (by kernel_rfl)) (To.pre (St.ug [2] (L':=[(2,25,[vi 3,.str [],ls ([ny]),rs8 [r9]]),(84,9,[rc2 ([ny])]),(86,25,[iC [r9]])]) (by kernel_rfl)) (To.weak (K':=[(2,.own 2 0),(3,vb true)]) (L':=[(2,25,[vi 3,.str [],ls ([ny]),tn4 [r9]]),(84,9,[rc2 ([ny])]),(86,25,[iC [r9]])]) (.cons (.refl _) (.cons (.refl _) .nil)) (.cons (.cons (.refl _) (.cons (.refl _) (.cons (.refl _) (.cons (.close _ _ _ _) .nil)))) (.cons (.cons (.refl _) .nil) (.cons (.cons (.refl _) .nil) .nil))) ?_))))))
     cases h
     exact To.done hΓ (by kernel_rfl)
    ·refine Wp.skip (To.ah (Wp.seq (Wp.seq (rg [2,4,11,13,15,89] [2,4] [(2,.own 2 0),(4,.own 4 0),(11,.str r5.1),(13,.str r6.1),(15,vi r7.1),(89,vb (!(r5.1==[])))] [(2,25,qc6 o4.2.1),(4,25,qc6 o4.2.2)] (To.ah ?_)))))
     obtain⟨o10,ho10,h⟩:=au h
     refine kw [2,4,11,13,15,89] [2,4] [(2,.own 2 0),(4,.own 4 0),(11,.str r5.1),(13,.str r6.1),(15,vi r7.1),(89,vb (!(r5.1==[])))] [(2,25,qc6 o4.2.1),(4,25,qc6 o4.2.2)] (Bm n r5.1 r6.1 r7.1 (!(r5.1==[])) o4.2.1 o4.2.2 o10 ho10 (To.ah (Wp.seq (Wp.seq (rg [2,4,13,15,95] [2,4] [(2,.own 2 0),(4,.own 4 0),(13,.str r6.1),(15,vi r7.1),(95,vb (!(r6.1==[])))] [(2,25,qc6 o4.2.1),(4,25,qc6 o10)] (To.ah ?_))))))
     obtain⟨o11,ho11,h⟩:=au h
     refine kw [2,4,13,15,95] [2,4] [(2,.own 2 0),(4,.own 4 0),(13,.str r6.1),(15,vi r7.1),(95,vb (!(r6.1==[])))] [(2,25,qc6 o4.2.1),(4,25,qc6 o10)] (Aw n r6.1 r7.1 (!(r6.1==[])) o4.2.1 o10 o11 ho11 (To.ah (Wp.seq (Wp.seq (rg [2,4,15,101] [2,4] [(2,.own 2 0),(4,.own 4 0),(15,vi r7.1),(101,vb (decide (r7.1>0)))] [(2,25,qc6 o4.2.1),(4,25,qc6 o11)] (To.ah ?_))))))
     obtain⟨o12,ho12,h⟩:=au h
     refine kw [2,4,15,101] [2,4] [(2,.own 2 0),(4,.own 4 0),(15,vi r7.1),(101,vb (decide (r7.1>0)))] [(2,25,qc6 o4.2.1),(4,25,qc6 o11)] (Bz n r7.1 (decide (r7.1>0)) o4.2.1 o11 o12 ho12 (To.ah (Wp.seq ?_)))
     obtain⟨r13,hr13,h⟩:=au h
     refine rc [] 1 [2,3] [2] [(2,.own 2 0),(3,vb r13.2)] [(2,25,qc6 r13.1)] (jJ n o12 true _ hr13) (To.ah (Wp.ret ?_))
     cases h
     exact To.done hΓ (by kernel_rfl)
  ·replace h:=cH h
   refine To.aA ?_
   cases h
   exact To.done hΓ (by kernel_rfl)
def ru(n:Nat)(a0:af)(a1:Int):Option (af×Bool) :=
 if(decide (a1<5))=true then((vF n a0 a1).bind fun r1 =>
 some (r1.1,r1.2))
 else(if(a1==5)=true then((rH n a0).bind fun r2 =>
 some (r2.1,r2.2))
 else(if(bif (a1==6) then true else(a1==7))=true then((qZ n a0 (a1==6)).bind fun r3 =>
 some (r3.1,r3.2))
 else(if(a1==8)=true then((sN n a0).bind fun r4 =>
 some (r4.1,r4.2))
 else(if(a1==9)=true then((rI n a0).bind fun r5 =>
 some (r5.1,r5.2))
 else(if(a1==10)=true then((pL n a0).bind fun r6 =>
 some (r6.1,r6.2))
 else(if(a1==11)=true then((tZ n a0).bind fun r7 =>
 some (r7.1,r7.2))
 else(if(a1==12)=true then((oD n a0).bind fun r8 =>
 some (r8.1,r8.2))
 else((pN n a0).bind fun r9 =>
 some (r9.1,r9.2)))))))))
theorem I9(n:Nat)(a0:af)(a1:Int)(r:af×Bool)(h:ru n a0 a1=some r):aJ Tryz.prog 62 [.agg (qc6 a0),vi a1] (.tup [.agg (qc6 r.1),vb r.2]):=by
 unfold ru at h
 refine xo Tryz.f62 rfl fun F0 w0 _=>?_
 refine Wp.seq (rg [1,2,4] [2,4] [(1,vi a1),(2,.own 2 0),(4,.own 4 0)] [(2,25,qc6 a0),(4,25,[vi 0,.str [],.val (.slice none 0 0),.val (.slice none 0 0)])] (To.ah (Wp.seq (Wp.seq (rg [1,2,4,7] [2,4] [(1,vi a1),(2,.own 2 0),(4,.own 4 0),(7,vb (decide (a1<5)))] [(2,25,qc6 a0),(4,25,[vi 0,.str [],.val (.slice none 0 0),.val (.slice none 0 0)])] (To.ah (cn h (fun h=>?_) (fun h=>?_))))))))
 ·refine Wp.seq ?_
  obtain⟨r1,hr1,h⟩:=au h
  refine rc [] 2 [4,5] [4] [(4,.own 4 0),(5,vb r1.2)] [(4,25,qc6 r1.1)] (KZ n a0 a1 _ hr1) (To.ah (Wp.ret (To.aA ?_)))
  cases h
  exact To.done hΓ (by kernel_rfl)
 ·refine Wp.skip (To.ah (Wp.seq (Wp.seq (rg [1,2,4,14] [2,4] [(1,vi a1),(2,.own 2 0),(4,.own 4 0),(14,vb (a1==5))] [(2,25,qc6 a0),(4,25,[vi 0,.str [],.val (.slice none 0 0),.val (.slice none 0 0)])] (To.ah (cn h (fun h=>?_) (fun h=>?_)))))))
  ·refine Wp.seq ?_
   obtain⟨r2,hr2,h⟩:=au h
   refine rc [] 1 [4,5] [4] [(4,.own 4 0),(5,vb r2.2)] [(4,25,qc6 r2.1)] (Jb n a0 _ hr2) (To.ah (Wp.ret (To.aA ?_)))
   cases h
   exact To.done hΓ (by kernel_rfl)
  ·refine Wp.skip (To.ah (Wp.seq (Wp.seq (rg [1,2,4,24] [2,4] [(1,vi a1),(2,.own 2 0),(4,.own 4 0),(24,vb (bif (a1==6) then true else(a1==7)))] [(2,25,qc6 a0),(4,25,[vi 0,.str [],.val (.slice none 0 0),.val (.slice none 0 0)])] (To.ah (cn h (fun h=>?_) (fun h=>?_)))))))
   ·refine Wp.seq ?_
    obtain⟨r3,hr3,h⟩:=au h
    refine rc [] 3 [4,5] [4] [(4,.own 4 0),(5,vb r3.2)] [(4,25,qc6 r3.1)] (Hz n a0 (a1==6) _ hr3) (To.ah (Wp.ret (To.aA ?_)))
    cases h
    exact To.done hΓ (by kernel_rfl)
   ·refine Wp.skip (To.ah (Wp.seq (Wp.seq (rg [1,2,4,32] [2,4] [(1,vi a1),(2,.own 2 0),(4,.own 4 0),(32,vb (a1==8))] [(2,25,qc6 a0),(4,25,[vi 0,.str [],.val (.slice none 0 0),.val (.slice none 0 0)])] (To.ah (cn h (fun h=>?_) (fun h=>?_)))))))
    ·refine Wp.seq ?_
     obtain⟨r4,hr4,h⟩:=au h
     refine rc [] 1 [4,5] [4] [(4,.own 4 0),(5,vb r4.2)] [(4,25,qc6 r4.1)] (Ac n a0 _ hr4) (To.ah (Wp.ret (To.aA ?_)))
     cases h
     exact To.done hΓ (by kernel_rfl)
    ·refine Wp.skip (To.ah (Wp.seq (Wp.seq (rg [1,2,4,38] [2,4] [(1,vi a1),(2,.own 2 0),(4,.own 4 0),(38,vb (a1==9))] [(2,25,qc6 a0),(4,25,[vi 0,.str [],.val (.slice none 0 0),.val (.slice none 0 0)])] (To.ah (cn h (fun h=>?_) (fun h=>?_)))))))
     ·refine Wp.seq ?_
      obtain⟨r5,hr5,h⟩:=au h
      refine rc [] 1 [4,5] [4] [(4,.own 4 0),(5,vb r5.2)] [(4,25,qc6 r5.1)] (Iu n a0 _ hr5) (To.ah (Wp.ret (To.aA ?_)))
      cases h
      exact To.done hΓ (by kernel_rfl)
     ·refine Wp.skip (To.ah (Wp.seq (Wp.seq (rg [1,2,4,44] [2,4] [(1,vi a1),(2,.own 2 0),(4,.own 4 0),(44,vb (a1==10))] [(2,25,qc6 a0),(4,25,[vi 0,.str [],.val (.slice none 0 0),.val (.slice none 0 0)])] (To.ah (cn h (fun h=>?_) (fun h=>?_)))))))
      ·refine Wp.seq ?_
       obtain⟨r6,hr6,h⟩:=au h
       refine rc [] 1 [4,5] [4] [(4,.own 4 0),(5,vb r6.2)] [(4,25,qc6 r6.1)] (Gv n a0 _ hr6) (To.ah (Wp.ret (To.aA ?_)))
       cases h
       exact To.done hΓ (by kernel_rfl)
      ·refine Wp.skip (To.ah (Wp.seq (Wp.seq (rg [1,2,4,50] [2,4] [(1,vi a1),(2,.own 2 0),(4,.own 4 0),(50,vb (a1==11))] [(2,25,qc6 a0),(4,25,[vi 0,.str [],.val (.slice none 0 0),.val (.slice none 0 0)])] (To.ah (cn h (fun h=>?_) (fun h=>?_)))))))
       ·refine Wp.seq ?_
        obtain⟨r7,hr7,h⟩:=au h
        refine rc [] 1 [4,5] [4] [(4,.own 4 0),(5,vb r7.2)] [(4,25,qc6 r7.1)] (JZ n a0 _ hr7) (To.ah (Wp.ret (To.aA ?_)))
        cases h
        exact To.done hΓ (by kernel_rfl)
       ·refine Wp.skip (To.ah (Wp.seq (Wp.seq (rg [2,4,56] [2,4] [(2,.own 2 0),(4,.own 4 0),(56,vb (a1==12))] [(2,25,qc6 a0),(4,25,[vi 0,.str [],.val (.slice none 0 0),.val (.slice none 0 0)])] (To.ah (cn h (fun h=>?_) (fun h=>?_)))))))
        ·refine Wp.seq ?_
         obtain⟨r8,hr8,h⟩:=au h
         refine rc [] 1 [4,5] [4] [(4,.own 4 0),(5,vb r8.2)] [(4,25,qc6 r8.1)] (EI n a0 _ hr8) (To.ah (Wp.ret (To.aA ?_)))
         cases h
         exact To.done hΓ (by kernel_rfl)
        ·refine Wp.skip (To.ah (Wp.seq ?_))
         obtain⟨r9,hr9,h⟩:=au h
         refine rc [] 1 [4,5] [4] [(4,.own 4 0),(5,vb r9.2)] [(4,25,qc6 r9.1)] (Hl n a0 _ hr9) (To.ah (Wp.ret ?_))
         cases h
         exact To.done hΓ (by kernel_rfl)
def lK(n:Nat)(v4:Int)(b1:af)(b2:aC)(b3:af):Option (Sum (aC×af) (aC)) :=
 if(decide (0<=v4/\v4<(List.length b1.aj:Int)))=true then((lW n ((b1.aj)[Int.toNat v4]?.getD [])).bind fun r1 =>
 if r1=true then(some (.inl (b2,b3)))
 else(if(decide (0<=v4/\v4<(List.length b1.aj:Int)))=true then((pY n ((b1.aj)[Int.toNat v4]?.getD [])).bind fun r2 =>
 if(decide (r2<0))=true then(if(decide (0<=v4/\v4<(List.length b1.aj:Int)))=true then(some (.inr (aC.mk (af.mk 0 [] [] []) ((b1.aj)[Int.toNat v4]?.getD []) 10))) else none)
 else(if(decide (0<=v4/\v4<(List.length b1.ak:Int)))=true then(if((((b1.ak)[Int.toNat v4]?.getD (af.mk 0 [] [] [])).av)==0)=true then(some (.inl (b2,b3)))
 else(if(decide (0<=v4/\v4<(List.length b1.ak:Int)))=true then((ru n ((b1.ak)[Int.toNat v4]?.getD (af.mk 0 [] [] [])) r2).bind fun r4 =>
 if(!r4.2)=true then(if(decide (0<=v4/\v4<(List.length b1.aj:Int)))=true then(some (.inr (aC.mk (af.mk 0 [] [] []) ((b1.aj)[Int.toNat v4]?.getD []) 10))) else none)
 else(if(decide (0<=v4/\v4<(List.length b1.aj:Int)))=true then((dA n b3 ((b1.aj)[Int.toNat v4]?.getD []) r4.1).bind fun r6 =>
 some (.inl (b2,r6))) else none)) else none)) else none)) else none)) else none
abbrev qK(x:aC):List D:=[vi x.f_N.av,.str x.f_N.aB,ls x.f_N.aj,tn4 x.f_N.ak,.str x.lC,vi x.f_E]
abbrev RD(x0:af)(x1:Int):Nat×Nat×List D:=(2,31,[vi 0,.str [],.val (.slice none 0 0),.val (.slice none 0 0),.str (cv x0 x1),vi 10])
theorem zP(n:Nat)(v4:Int)(b1:af)(b2:aC)(b3:af)(o:Sum (aC×af) (aC))(h:lK n v4 b1 b2 b3=some o)(hQ:(Sum.elim (fun s=>To 81 F0 w0 [(1,.own 1 0),(2,.own 2 0),(3,.own 3 0),(4,vi v4)] [(1,25,qc6 b1),(2,31,qK s.1),(3,25,qc6 s.2)] .normal Q) (fun s=>To 81 F0 w0 [(2,.own 2 0)] [(2,31,qK s)] .ret Q)) o):Wp Tryz.prog 81 F0 w0 [(1,.own 1 0),(2,.own 2 0),(3,.own 3 0),(4,vi v4)] [(1,25,qc6 b1),(2,31,(ay b2)),(3,25,qc6 b3)] (cA (cB (cI (cI (cB (cA (cB (cB (cB (cF Tryz.f46)))))))))) Q:=by
 unfold lK at h
 refine Wp.block (Wp.seq (Wp.seq ?_))
 obtain⟨hc11,h⟩:=ax h
 obtain⟨r1,hr1,h⟩:=au h
 refine rr [] [(5,vb r1)] [] [1,2,3,4,30] [1,2,3] [(1,.own 1 0),(2,.own 2 0),(3,.own 3 0),(4,vi v4),(30,vb r1)] [(1,25,qc6 b1),(2,31,(ay b2)),(3,25,qc6 b3)] [_,_] (ai.cons hc11 (ai.cons (c1 (wM n (cv b1 v4) _ hr1)) ai.nil)) (To.ah (cn h (fun h=>?_) (fun h=>?_)))
 ·refine Wp.exit (To.aK (To.aX (kt [1,2,3,4] [1,2,3] [(1,.own 1 0),(2,.own 2 0),(3,.own 3 0),(4,vi v4)] [(1,25,qc6 b1),(2,31,(ay b2)),(3,25,qc6 b3)] ?_)))
  cases h
  exact hQ
 ·refine Wp.skip (To.ah (Wp.seq ?_))
  obtain⟨hc10,h⟩:=ax h
  obtain⟨r2,hr2,h⟩:=au h
  refine rr [] [(5,vi r2)] [] [1,2,3,4,5] [1,2,3] [(1,.own 1 0),(2,.own 2 0),(3,.own 3 0),(4,vi v4),(5,vi r2)] [(1,25,qc6 b1),(2,31,(ay b2)),(3,25,qc6 b3)] [_,_] (ai.cons hc10 (ai.cons (c1 (GH n (cv b1 v4) _ hr2)) ai.nil)) (To.ah (Wp.seq (Wp.seq (rg [1,2,3,4,5,38] [1,2,3] [(1,.own 1 0),(2,.own 2 0),(3,.own 3 0),(4,vi v4),(5,vi r2),(38,vb (decide (r2<0)))] [(1,25,qc6 b1),(2,31,(ay b2)),(3,25,qc6 b3)] (To.ah (cn h (fun h=>?_) (fun h=>?_)))))))
  ·refine Wp.seq ?_
   obtain⟨hc3,h⟩:=ax h
   refine r0 [2] [2] [(2,.own 2 0)] [(RD b1 v4)] (ai.cons hc3 ai.nil) (To.ah (Wp.ret (To.aA (To.aQ (To.weak (K':=[(2,.own 2 0)]) (L':=[(2,31,[vi 0,.str [],ls [],tn4 [],.str (cv b1 v4),vi 10])]) (.cons (.refl _) .nil) (.cons (.cons (.refl _) (.cons (.refl _) (.cons (.zero _ _) (.cons (.bu _ _ _) (.cons (.refl _) (.cons (.refl _) .nil)))))) .nil) ?_)))))
   cases h
   exact hQ
  ·refine Wp.skip (To.ah (Wp.seq (Wp.seq ?_)))
   obtain⟨hc9,h⟩:=ax h
   refine r0 [1,2,3,4,5,51] [1,2,3] [(1,.own 1 0),(2,.own 2 0),(3,.own 3 0),(4,vi v4),(5,vi r2),(51,vb (((ex5 b1 v4).av)==0))] [(1,25,qc6 b1),(2,31,(ay b2)),(3,25,qc6 b3)] (ai.cons hc9 ai.nil) (To.ah (cn h (fun h=>?_) (fun h=>?_)))
   ·refine Wp.exit (To.aK (To.aX (kt [1,2,3,4] [1,2,3] [(1,.own 1 0),(2,.own 2 0),(3,.own 3 0),(4,vi v4)] [(1,25,qc6 b1),(2,31,(ay b2)),(3,25,qc6 b3)] ?_)))
    cases h
    exact hQ
   ·refine Wp.skip (To.ah (Wp.seq ?_))
    obtain⟨hc8,h⟩:=ax h
    obtain⟨r4,hr4,h⟩:=au h
    refine rr [] [(6,.tup [.agg (qc6 r4.1),vb r4.2])] [] [1,2,3,4,6,7] [1,2,3,6] [(1,.own 1 0),(2,.own 2 0),(3,.own 3 0),(4,vi v4),(6,.own 6 0),(7,vb r4.2)] [(1,25,qc6 b1),(2,31,(ay b2)),(3,25,qc6 b3),(6,25,qc6 r4.1)] [_,_] (ai.cons hc8 (ai.cons (c1 (I9 n (ex5 b1 v4) r2 _ hr4)) ai.nil)) (To.ah (Wp.seq (Wp.seq (rg [1,2,3,4,6,63] [1,2,3,6] [(1,.own 1 0),(2,.own 2 0),(3,.own 3 0),(4,vi v4),(6,.own 6 0),(63,vb (!r4.2))] [(1,25,qc6 b1),(2,31,(ay b2)),(3,25,qc6 b3),(6,25,qc6 r4.1)] (To.ah (cn h (fun h=>?_) (fun h=>?_)))))))
    ·refine Wp.seq ?_
     obtain⟨hc5,h⟩:=ax h
     refine r0 [2] [2] [(2,.own 2 0)] [(RD b1 v4)] (ai.cons hc5 ai.nil) (To.ah (Wp.ret (To.aA (To.aQ (To.weak (K':=[(2,.own 2 0)]) (L':=[(2,31,[vi 0,.str [],ls [],tn4 [],.str (cv b1 v4),vi 10])]) (.cons (.refl _) .nil) (.cons (.cons (.refl _) (.cons (.refl _) (.cons (.zero _ _) (.cons (.bu _ _ _) (.cons (.refl _) (.cons (.refl _) .nil)))))) .nil) ?_)))))
     cases h
     exact hQ
    ·refine Wp.skip (To.ah ?_)
     obtain⟨hc7,h⟩:=ax h
     obtain⟨r6,hr6,h⟩:=au h
     refine Wp.bG hm hΓ [(7,.agg (qc6 r6))] [1,2,3,4] [1,2,3] (K':=[(1,.own 1 0),(2,.own 2 0),(3,.own 3 0),(4,vi v4)]) (L':=[(1,25,qc6 b1),(2,31,(ay b2)),(3,25,qc6 r6)]) (ob:=[(FH v4 b1)=true,(true=true->CX Tryz.prog 30 [.agg (qc6 b3),.str (cv b1 v4),.agg (qc6 r4.1)] (.agg (qc6 r6)))]) (by kernel_rfl) (ai.cons hc7 (ai.cons (fun _=>cx (dH n b3 (cv b1 v4) r4.1 _ hr6)) ai.nil)) (To.aO (kt [1,2,3,4] [1,2,3] [(1,.own 1 0),(2,.own 2 0),(3,.own 3 0),(4,vi v4)] [(1,25,qc6 b1),(2,31,(ay b2)),(3,25,qc6 r6)] ?_))
     cases h
     exact hQ
def dS(n:Nat)(b1:af):Nat->Int->aC->af->Option (Sum (aC×af) (aC))
 |0,_,_,_=>none
 |k+1,v4,b2,b3=>if(decide (v4<(List.length b1.aj:Int)))=true then((lK n v4 b1 b2 b3).bind fun o1 =>
 (Sum.elim (fun o1=>dS n b1 k (IntKind.wrap .i64 (v4+1)) o1.1 o1.2) (fun o1=>some (.inr o1))) o1)
 else(some (.inl (b2,b3)))
theorem zN(n:Nat)(b1:af)(k:Nat):∀(v4:Int)(b2:aC)(b3:af)(o:Sum (aC×af) (aC)),dS n b1 k v4 b2 b3=some o->(Sum.elim (fun s=>To 81 F0 w0 [(2,.own 2 0),(3,.own 3 0)] [(2,31,qK s.1),(3,25,qc6 s.2)] (.exit 0) Q) (fun s=>To 81 F0 w0 [(2,.own 2 0)] [(2,31,qK s)] .ret Q)) o->WL Tryz.prog 81 F0 w0 [(1,.own 1 0),(2,.own 2 0),(3,.own 3 0),(4,vi v4)] [(1,25,qc6 b1),(2,31,(ay b2)),(3,25,qc6 b3)] (cI (cI (cB (cA (cB (cB (cB (cF Tryz.f46)))))))) Q:=by
 induction k with
 |zero=>intro v4 b2 b3 o h;cases h
 |succ k ih =>
  intro v4 b2 b3 o h hQ
  rw[dS] at h
  refine WL.round (Wp.seq (Wp.seq (rg [1,2,3,4,22] [1,2,3] [(1,.own 1 0),(2,.own 2 0),(3,.own 3 0),(4,vi v4),(22,vb (xq v4 b1))] [(1,25,qc6 b1),(2,31,(ay b2)),(3,25,qc6 b3)] (To.ah (cn h (fun h=>?_) (fun h=>?_))))))
  ·refine Wp.skip (To.ah (Wp.seq ?_))
   obtain⟨o1,ho1,h⟩:=au h
   refine kw [1,2,3,4] [1,2,3] [(1,.own 1 0),(2,.own 2 0),(3,.own 3 0),(4,vi v4)] [(1,25,qc6 b1),(2,31,(ay b2)),(3,25,qc6 b3)] (zP n v4 b1 b2 b3 o1 ho1 ?_)
   rcases o1 with o1|o1
   ·replace h:=cy h
    refine To.ah (rg [1,2,3,4] [1,2,3] [(1,.own 1 0),(2,.own 2 0),(3,.own 3 0),(lN v4)] [(1,25,qc6 b1),(2,31,(ay o1.1)),(3,25,qc6 o1.2)] (kt [1,2,3,4] [1,2,3] [(1,.own 1 0),(2,.own 2 0),(3,.own 3 0),(lN v4)] [(1,25,qc6 b1),(2,31,(ay o1.1)),(3,25,qc6 o1.2)] (To.again ?_)))
    exact ih (IntKind.wrap .i64 (v4+1)) o1.1 o1.2 _ h hQ
   ·replace h:=cH h
    refine To.aA (To.aA (kt [2] [2] [(2,.own 2 0)] [(2,31,(ay o1))] ?_))
    cases h
    exact hQ
  ·refine Wp.exit (To.aK (To.aK (kt [2,3] [2,3] [(2,.own 2 0),(3,.own 3 0)] [(2,31,(ay b2)),(3,25,qc6 b3)] ?_)))
   cases h
   exact hQ
def nY(n:Nat)(a0:af):Option (aC) :=
 if(bif (a0.av != 0) then(a0.av != 3) else false)=true then(some (aC.mk (af.mk 0 [] [] []) [] 10))
 else((dS n a0 n 0 (aC.mk (af.mk 0 [] [] []) [] 0) (af.mk 3 [] [] [])).bind fun o1 =>
 (Sum.elim (fun o1=>(dK n o1.2).bind fun r2 =>
 some (aC.mk r2 [] 0)) (fun o1=>some o1)) o1)
theorem EK(n:Nat)(a0:af)(r:aC)(h:nY n a0=some r):aJ Tryz.prog 46 [.agg (qc6 a0)] (.agg (qK r)):=by
 unfold nY at h
 refine xo Tryz.f46 rfl fun F0 w0 _=>?_
 refine Wp.seq (rg [1,2] [1,2] [(1,.own 1 0),(2,.own 2 0)] [(1,25,qc6 a0),(2,31,[vi 0,.str [],.val (.slice none 0 0),.val (.slice none 0 0),.str [],vi 0])] (To.ah (Wp.seq (Wp.seq (rg [1,2,15] [1,2] [(1,.own 1 0),(2,.own 2 0),(15,vb (RV a0))] [(1,25,qc6 a0),(2,31,[vi 0,.str [],.val (.slice none 0 0),.val (.slice none 0 0),.str [],vi 0])] (To.ah (cn h (fun h=>?_) (fun h=>?_))))))))
 ·refine Wp.seq (rg [2] [2] [(2,.own 2 0)] [(2,31,[vi 0,.str [],.val (.slice none 0 0),.val (.slice none 0 0),.str [],vi 10])] (To.ah (Wp.ret (To.aA (To.weak (K':=[(2,.own 2 0)]) (L':=[(2,31,[vi 0,.str [],ls [],tn4 [],.str [],vi 10])]) (.cons (.refl _) .nil) (.cons (.cons (.refl _) (.cons (.refl _) (.cons (.zero _ _) (.cons (.bu _ _ _) (.cons (.refl _) (.cons (.refl _) .nil)))))) .nil) ?_)))))
  cases h
  exact To.done hΓ (by kernel_rfl)
 ·refine Wp.skip (To.ah (Wp.seq (rg [1,2,3] [1,2,3] [(1,.own 1 0),(2,.own 2 0),(3,.own 3 0)] [(1,25,qc6 a0),(2,31,[vi 0,.str [],.val (.slice none 0 0),.val (.slice none 0 0),.str [],vi 0]),(3,25,[vi 3,.str [],.val (.slice none 0 0),.val (.slice none 0 0)])] (To.ah (Wp.seq (Wp.seq (rg [1,2,3,4] [1,2,3] [(1,.own 1 0),(2,.own 2 0),(3,.own 3 0),(4,vi 0)] [(1,25,qc6 a0),(2,31,[vi 0,.str [],.val (.slice none 0 0),.val (.slice none 0 0),.str [],vi 0]),(3,25,[vi 3,.str [],.val (.slice none 0 0),.val (.slice none 0 0)])] (To.ah (Wp.block ?_)))))))))
  obtain⟨o1,ho1,h⟩:=au h
  refine kw [1,2,3,4] [1,2,3] [(1,.own 1 0),(2,.own 2 0),(3,.own 3 0),(4,vi 0)] [(1,25,qc6 a0),(2,31,[vi 0,.str [],.val (.slice none 0 0),.val (.slice none 0 0),.str [],vi 0]),(3,25,[vi 3,.str [],.val (.slice none 0 0),.val (.slice none 0 0)])] (Wp.weak (K':=[(1,.own 1 0),(2,.own 2 0),(3,.own 3 0),(4,vi 0)]) (L':=[(1,25,qc6 a0),(2,31,[vi 0,.str [],ls [],tn4 [],.str [],vi 0]),(3,25,[vi 3,.str [],ls [],tn4 []])]) (.cons (.refl _) (.cons (.refl _) (.cons (.refl _) (.cons (.refl _) .nil)))) (.cons (.cons (.refl _) (.cons (.refl _) (.cons (.refl _) (.cons (.refl _) .nil)))) (.cons (.cons (.refl _) (.cons (.refl _) (.cons (.zero _ _) (.cons (.bu _ _ _) (.cons (.refl _) (.cons (.refl _) .nil)))))) (.cons (.cons (.refl _) (.cons (.refl _) (.cons (.zero _ _) (.cons (.bu _ _ _) .nil)))) .nil))) (Wp.bC (zN n a0 n 0 (aC.mk zx3 [] 0) (af.mk 3 [] [] []) o1 ho1 ?_)))
  rcases o1 with o1|o1
  ·replace h:=cy h
   refine To.aX (To.ah (Wp.seq ?_))
   obtain⟨r2,hr2,h⟩:=au h
   refine rc [] 1 [2] [2] [(2,.own 2 0)] [(2,31,[vi r2.av,.str r2.aB,ls r2.aj,tn4 r2.ak,.str [],vi 0])] (pg n o1.2 _ hr2) (To.ah (Wp.ret ?_))
   cases h
   exact To.done hΓ (by kernel_rfl)
  ·replace h:=cH h
   refine To.aQ (To.aA ?_)
   cases h
   exact To.done hΓ (by kernel_rfl)
def kJ(n:Nat)(v5:Bs)(v38:Bool)(b2:aC):Option (Bs) :=
 if v38=true then(some kF)
 else some v5
theorem yV(n:Nat)(v5:Bs)(v38:Bool)(b2:aC)(o:Bs)(h:kJ n v5 v38 b2=some o)(hQ:To 85 F0 w0 [(2,.own 2 0),(5,.str o)] [(2,31,(ay b2))] .normal Q):Wp Tryz.prog 85 F0 w0 [(2,.own 2 0),(5,.str v5),(38,vb v38)] [(2,31,(ay b2))] (cB (cA (cB (cT (cB (cA (cI (cA (cB (cI (cI (cB (cA (cB (cB (cB (cF Tryz.f27))))))))))))))))) Q:=by
 unfold kJ at h
 refine cn h (fun h=>?_) (fun h=>?_)
 ·refine rg [2,5] [2] [(2,.own 2 0),(5,.str kF)] [(2,31,(ay b2))] (kt [2,5] [2] [(2,.own 2 0),(5,.str kF)] [(2,31,(ay b2))] ?_)
  cases h
  exact hQ
 ·refine Wp.skip (kt [2,5] [2] [(2,.own 2 0),(5,.str v5)] [(2,31,(ay b2))] ?_)
  cases h
  exact hQ
def kG(n:Nat)(v7:Bs)(v58:Bool)(b2:aC)(b6:aC):Option (Bs) :=
 if v58=true then(if(decide (((List.length v7+List.length ([46]:Bs):Nat):Int)<=9223372036854775807))=true then(if(decide (((List.length (v7++[46])+List.length b6.lC:Nat):Int)<=9223372036854775807))=true then(some ((v7++[46])++b6.lC)) else none) else none)
 else some v7
theorem yM(n:Nat)(v7:Bs)(v58:Bool)(b2:aC)(b6:aC)(o:Bs)(h:kG n v7 v58 b2 b6=some o)(hQ:To 85 F0 w0 [(2,.own 2 0),(6,.own 6 0),(7,.str o)] [(2,31,(ay b2)),(6,31,(ay b6))] .normal Q):Wp Tryz.prog 85 F0 w0 [(2,.own 2 0),(6,.own 6 0),(7,.str v7),(58,vb v58)] [(2,31,(ay b2)),(6,31,(ay b6))] (cB (cA (cB (cT (cB (cA (cB (cB (cI (cA (cB (cI (cI (cB (cA (cB (cB (cB (cF Tryz.f27))))))))))))))))))) Q:=by
 unfold kG at h
 refine cn h (fun h=>?_) (fun h=>?_)
 ·obtain⟨hc7,h⟩:=ax h
  obtain⟨hc8,h⟩:=ax h
  refine r0 [2,6,7] [2,6] [(2,.own 2 0),(6,.own 6 0),(7,.str ((v7++[46])++b6.lC))] [(2,31,(ay b2)),(6,31,(ay b6))] (ai.cons hc7 (ai.cons hc8 ai.nil)) (kt [2,6,7] [2,6] [(2,.own 2 0),(6,.own 6 0),(7,.str ((v7++[46])++b6.lC))] [(2,31,(ay b2)),(6,31,(ay b6))] ?_)
  cases h
  exact hQ
 ·refine Wp.skip (kt [2,6,7] [2,6] [(2,.own 2 0),(6,.own 6 0),(7,.str v7)] [(2,31,(ay b2)),(6,31,(ay b6))] ?_)
  cases h
  exact hQ
def cu(n:Nat)(b1:af):Nat->Int->aC->af->Option (Sum (aC×af) (aC))
 |0,_,_,_=>none
 |k+1,v4,b2,b3=>if(decide (v4<(List.length b1.aj:Int)))=true then(if(decide (0<=v4/\v4<(List.length b1.aj:Int)))=true then((il n ((b1.aj)[Int.toNat v4]?.getD [])).bind fun r1 =>
 if(!r1)=true then(if(decide (0<=v4/\v4<(List.length b1.aj:Int)))=true then(if(decide (((List.length (vg:Bs)+List.length ((b1.aj)[Int.toNat v4]?.getD []):Nat):Int)<=9223372036854775807))=true then(if(decide (0<=v4/\v4<(List.length b1.aj:Int)))=true then((kJ n ((vg:Bs)++((b1.aj)[Int.toNat v4]?.getD [])) (((b1.aj)[Int.toNat v4]?.getD [])==[]) b2).bind fun o2 =>
 some (.inr (aC.mk (af.mk 0 [] [] []) o2 10))) else none) else none) else none)
 else(if(decide (0<=v4/\v4<(List.length b1.ak:Int)))=true then((nY n ((b1.ak)[Int.toNat v4]?.getD (af.mk 0 [] [] []))).bind fun r6 =>
 if(r6.f_E != 0)=true then(if(decide (0<=v4/\v4<(List.length b1.aj:Int)))=true then(if(decide (((List.length (vg:Bs)+List.length ((b1.aj)[Int.toNat v4]?.getD []):Nat):Int)<=9223372036854775807))=true then((kG n ((vg:Bs)++((b1.aj)[Int.toNat v4]?.getD [])) (!(r6.lC==[])) b2 r6).bind fun o7 =>
 some (.inr (aC.mk (af.mk 0 [] [] []) o7 r6.f_E))) else none) else none)
 else(if(decide (0<=v4/\v4<(List.length b1.aj:Int)))=true then((dA n b3 ((b1.aj)[Int.toNat v4]?.getD []) r6.f_N).bind fun r10 =>
 cu n b1 k (IntKind.wrap .i64 (v4+1)) b2 r10) else none)) else none)) else none)
 else(some (.inl (b2,b3)))
abbrev Ag(x0:af)(x1:Int):=((vg:Bs)++(cv x0 x1))
theorem ze(n:Nat)(b1:af)(k:Nat):∀(v4:Int)(b2:aC)(b3:af)(o:Sum (aC×af) (aC)),cu n b1 k v4 b2 b3=some o->(Sum.elim (fun s=>To 85 F0 w0 [(2,.own 2 0),(3,.own 3 0)] [(2,31,qK s.1),(3,25,qc6 s.2)] (.exit 0) Q) (fun s=>To 85 F0 w0 [(2,.own 2 0)] [(2,31,qK s)] .ret Q)) o->WL Tryz.prog 85 F0 w0 [(1,.own 1 0),(2,.own 2 0),(3,.own 3 0),(4,vi v4)] [(1,25,qc6 b1),(2,31,(ay b2)),(3,25,qc6 b3)] (cI (cI (cB (cA (cB (cB (cB (cF Tryz.f27)))))))) Q:=by
 induction k with
 |zero=>intro v4 b2 b3 o h;cases h
 |succ k ih =>
  intro v4 b2 b3 o h hQ
  rw[cu] at h
  refine WL.round (Wp.seq (Wp.seq (rg [1,2,3,4,17] [1,2,3] [(1,.own 1 0),(2,.own 2 0),(3,.own 3 0),(4,vi v4),(17,vb (xq v4 b1))] [(1,25,qc6 b1),(2,31,(ay b2)),(3,25,qc6 b3)] (To.ah (cn h (fun h=>?_) (fun h=>?_))))))
  ·refine Wp.skip (To.ah (Wp.seq (Wp.block (Wp.seq (Wp.seq ?_)))))
   obtain⟨hc13,h⟩:=ax h
   obtain⟨r1,hr1,h⟩:=au h
   refine rr [] [(5,vb r1)] [] [1,2,3,4,26] [1,2,3] [(1,.own 1 0),(2,.own 2 0),(3,.own 3 0),(4,vi v4),(26,vb (!r1))] [(1,25,qc6 b1),(2,31,(ay b2)),(3,25,qc6 b3)] [_,_] (ai.cons hc13 (ai.cons (c1 (jR n (cv b1 v4) _ hr1)) ai.nil)) (To.ah (cn h (fun h=>?_) (fun h=>?_)))
   ·refine Wp.seq ?_
    obtain⟨hc4,h⟩:=ax h
    obtain⟨hc5,h⟩:=ax h
    refine r0 [1,2,4,5] [1,2] [(1,.own 1 0),(2,.own 2 0),(4,vi v4),(5,.str (Ag b1 v4))] [(1,25,qc6 b1),(2,31,(ay b2))] (ai.cons hc4 (ai.cons hc5 ai.nil)) (To.ah (Wp.seq (Wp.seq ?_)))
    obtain⟨hc3,h⟩:=ax h
    refine r0 [2,5,38] [2] [(2,.own 2 0),(5,.str (Ag b1 v4)),(38,vb ((cv b1 v4)==[]))] [(2,31,(ay b2))] (ai.cons hc3 ai.nil) (To.ah ?_)
    obtain⟨o2,ho2,h⟩:=au h
    refine kw [2,5,38] [2] [(2,.own 2 0),(5,.str (Ag b1 v4)),(38,vb ((cv b1 v4)==[]))] [(2,31,(ay b2))] (yV n (Ag b1 v4) ((cv b1 v4)==[]) b2 o2 ho2 (To.ah (Wp.seq (rg [2] [2] [(2,.own 2 0)] [(2,31,[vi 0,.str [],.val (.slice none 0 0),.val (.slice none 0 0),.str o2,vi 10])] (To.ah (Wp.ret (To.aA (To.aQ (To.aA (To.aA ?_))))))))))
    refine To.weak (K':=[(2,.own 2 0)]) (L':=[(2,31,[vi 0,.str [],ls [],tn4 [],.str o2,vi 10])]) (.cons (.refl _) .nil) (.cons (.cons (.refl _) (.cons (.refl _) (.cons (.zero _ _) (.cons (.bu _ _ _) (.cons (.refl _) (.cons (.refl _) .nil)))))) .nil) ?_
    cases h
    exact hQ
   ·refine Wp.skip (To.ah (Wp.seq ?_))
    obtain⟨hc12,h⟩:=ax h
    obtain⟨r6,hr6,h⟩:=au h
    refine rr [] [(5,.agg (qK r6))] [] [1,2,3,4,6] [1,2,3,6] [(1,.own 1 0),(2,.own 2 0),(3,.own 3 0),(4,vi v4),(6,.own 6 0)] [(1,25,qc6 b1),(2,31,(ay b2)),(3,25,qc6 b3),(6,31,(ay r6))] [_,_] (ai.cons hc12 (ai.cons (c1 (EK n (ex5 b1 v4) _ hr6)) ai.nil)) (To.ah (Wp.seq (Wp.seq (rg [1,2,3,4,6,49] [1,2,3,6] [(1,.own 1 0),(2,.own 2 0),(3,.own 3 0),(4,vi v4),(6,.own 6 0),(49,vb (r6.f_E != 0))] [(1,25,qc6 b1),(2,31,(ay b2)),(3,25,qc6 b3),(6,31,(ay r6))] (To.ah (cn h (fun h=>?_) (fun h=>?_)))))))
    ·refine Wp.seq ?_
     obtain⟨hc8,h⟩:=ax h
     obtain⟨hc9,h⟩:=ax h
     refine r0 [2,6,7] [2,6] [(2,.own 2 0),(6,.own 6 0),(7,.str (Ag b1 v4))] [(2,31,(ay b2)),(6,31,(ay r6))] (ai.cons hc8 (ai.cons hc9 ai.nil)) (To.ah (Wp.seq (Wp.seq (rg [2,6,7,58] [2,6] [(2,.own 2 0),(6,.own 6 0),(7,.str (Ag b1 v4)),(58,vb (!(r6.lC==[])))] [(2,31,(ay b2)),(6,31,(ay r6))] (To.ah ?_)))))
     obtain⟨o7,ho7,h⟩:=au h
     refine kw [2,6,7,58] [2,6] [(2,.own 2 0),(6,.own 6 0),(7,.str (Ag b1 v4)),(58,vb (!(r6.lC==[])))] [(2,31,(ay b2)),(6,31,(ay r6))] (yM n (Ag b1 v4) (!(r6.lC==[])) b2 r6 o7 ho7 (To.ah (Wp.seq (rg [2] [2] [(2,.own 2 0)] [(2,31,[vi 0,.str [],.val (.slice none 0 0),.val (.slice none 0 0),.str o7,vi r6.f_E])] (To.ah (Wp.ret (To.aA (To.aQ (To.aA (To.aA ?_))))))))))
     refine To.weak (K':=[(2,.own 2 0)]) (L':=[(2,31,[vi 0,.str [],ls [],tn4 [],.str o7,vi r6.f_E])]) (.cons (.refl _) .nil) (.cons (.cons (.refl _) (.cons (.refl _) (.cons (.zero _ _) (.cons (.bu _ _ _) (.cons (.refl _) (.cons (.refl _) .nil)))))) .nil) ?_
     cases h
     exact hQ
    ·refine Wp.skip (To.ah ?_)
     obtain⟨hc11,h⟩:=ax h
     obtain⟨r10,hr10,h⟩:=au h
     refine Wp.bG hm hΓ [(8,.agg (qc6 r10))] [1,2,3,4] [1,2,3] (K':=[(1,.own 1 0),(2,.own 2 0),(3,.own 3 0),(4,vi v4)]) (L':=[(1,25,qc6 b1),(2,31,(ay b2)),(3,25,qc6 r10)]) (ob:=[(FH v4 b1)=true,(true=true->CX Tryz.prog 30 [.agg (qc6 b3),.str (cv b1 v4),.agg [vi r6.f_N.av,.str r6.f_N.aB,ls r6.f_N.aj,tn4 r6.f_N.ak]] (.agg (qc6 r10)))]) (by kernel_rfl) (ai.cons hc11 (ai.cons (fun _=>cx (dH n b3 (cv b1 v4) r6.f_N _ hr10)) ai.nil)) (To.aO (To.ah (rg [1,2,3,4] [1,2,3] [(1,.own 1 0),(2,.own 2 0),(3,.own 3 0),(lN v4)] [(1,25,qc6 b1),(2,31,(ay b2)),(3,25,qc6 r10)] (kt [1,2,3,4] [1,2,3] [(1,.own 1 0),(2,.own 2 0),(3,.own 3 0),(lN v4)] [(1,25,qc6 b1),(2,31,(ay b2)),(3,25,qc6 r10)] (To.again ?_)))))
     exact ih (IntKind.wrap .i64 (v4+1)) b2 r10 _ h hQ
  ·refine Wp.exit (To.aK (To.aK (kt [2,3] [2,3] [(2,.own 2 0),(3,.own 3 0)] [(2,31,(ay b2)),(3,25,qc6 b3)] ?_)))
   cases h
   exact hQ
def nj(n:Nat)(a0:af):Option (aC) :=
 if(a0.av != 3)=true then(some (aC.mk (af.mk 0 [] [] []) kF 10))
 else((cu n a0 n 0 (aC.mk (af.mk 0 [] [] []) [] 0) (af.mk 3 [] [] [])).bind fun o1 =>
 (Sum.elim (fun o1=>if(decide ((List.length o1.2.aj:Int)>16))=true then(some (aC.mk (af.mk 0 [] [] []) kF 9))
 else((dK n o1.2).bind fun r2 =>
 some (aC.mk r2 [] 0))) (fun o1=>some o1)) o1)
theorem Cj(n:Nat)(a0:af)(r:aC)(h:nj n a0=some r):aJ Tryz.prog 27 [.agg (qc6 a0)] (.agg (qK r)):=by
 unfold nj at h
 refine xo Tryz.f27 rfl fun F0 w0 _=>?_
 refine Wp.seq (rg [1,2] [1,2] [(1,.own 1 0),(2,.own 2 0)] [(1,25,qc6 a0),(2,31,[vi 0,.str [],.val (.slice none 0 0),.val (.slice none 0 0),.str [],vi 0])] (To.ah (Wp.seq (Wp.seq (rg [1,2,10] [1,2] [(1,.own 1 0),(2,.own 2 0),(10,vb (a0.av != 3))] [(1,25,qc6 a0),(2,31,[vi 0,.str [],.val (.slice none 0 0),.val (.slice none 0 0),.str [],vi 0])] (To.ah (cn h (fun h=>?_) (fun h=>?_))))))))
 ·refine Wp.seq (rg [2] [2] [(2,.own 2 0)] [(2,31,[vi 0,.str [],.val (.slice none 0 0),.val (.slice none 0 0),.str kF,vi 10])] (To.ah (Wp.ret (To.aA (To.weak (K':=[(2,.own 2 0)]) (L':=[(2,31,[vi 0,.str [],ls [],tn4 [],.str kF,vi 10])]) (.cons (.refl _) .nil) (.cons (.cons (.refl _) (.cons (.refl _) (.cons (.zero _ _) (.cons (.bu _ _ _) (.cons (.refl _) (.cons (.refl _) .nil)))))) .nil) ?_)))))
  cases h
  exact To.done hΓ (by kernel_rfl)
 ·refine Wp.skip (To.ah (Wp.seq (rg [1,2,3] [1,2,3] [(1,.own 1 0),(2,.own 2 0),(3,.own 3 0)] [(1,25,qc6 a0),(2,31,[vi 0,.str [],.val (.slice none 0 0),.val (.slice none 0 0),.str [],vi 0]),(3,25,[vi 3,.str [],.val (.slice none 0 0),.val (.slice none 0 0)])] (To.ah (Wp.seq (Wp.seq (rg [1,2,3,4] [1,2,3] [(1,.own 1 0),(2,.own 2 0),(3,.own 3 0),(4,vi 0)] [(1,25,qc6 a0),(2,31,[vi 0,.str [],.val (.slice none 0 0),.val (.slice none 0 0),.str [],vi 0]),(3,25,[vi 3,.str [],.val (.slice none 0 0),.val (.slice none 0 0)])] (To.ah (Wp.block ?_)))))))))
  obtain⟨o1,ho1,h⟩:=au h
  refine kw [1,2,3,4] [1,2,3] [(1,.own 1 0),(2,.own 2 0),(3,.own 3 0),(4,vi 0)] [(1,25,qc6 a0),(2,31,[vi 0,.str [],.val (.slice none 0 0),.val (.slice none 0 0),.str [],vi 0]),(3,25,[vi 3,.str [],.val (.slice none 0 0),.val (.slice none 0 0)])] (Wp.weak (K':=[(1,.own 1 0),(2,.own 2 0),(3,.own 3 0),(4,vi 0)]) (L':=[(1,25,qc6 a0),(2,31,[vi 0,.str [],ls [],tn4 [],.str [],vi 0]),(3,25,[vi 3,.str [],ls [],tn4 []])]) (.cons (.refl _) (.cons (.refl _) (.cons (.refl _) (.cons (.refl _) .nil)))) (.cons (.cons (.refl _) (.cons (.refl _) (.cons (.refl _) (.cons (.refl _) .nil)))) (.cons (.cons (.refl _) (.cons (.refl _) (.cons (.zero _ _) (.cons (.bu _ _ _) (.cons (.refl _) (.cons (.refl _) .nil)))))) (.cons (.cons (.refl _) (.cons (.refl _) (.cons (.zero _ _) (.cons (.bu _ _ _) .nil)))) .nil))) (Wp.bC (ze n a0 n 0 (aC.mk zx3 [] 0) (af.mk 3 [] [] []) o1 ho1 ?_)))
  rcases o1 with o1|o1
  ·replace h:=cy h
   refine To.aX (To.ah (Wp.seq (Wp.seq (rg [2,3,80] [2,3] [(2,.own 2 0),(3,.own 3 0),(80,vb (decide ((List.length o1.2.aj:Int)>16)))] [(2,31,(ay o1.1)),(3,25,qc6 o1.2)] (To.ah (cn h (fun h=>?_) (fun h=>?_)))))))
   ·refine Wp.seq (rg [2] [2] [(2,.own 2 0)] [(2,31,[vi 0,.str [],.val (.slice none 0 0),.val (.slice none 0 0),.str kF,vi 9])] (To.ah (Wp.ret (To.aA (To.weak (K':=[(2,.own 2 0)]) (L':=[(2,31,[vi 0,.str [],ls [],tn4 [],.str kF,vi 9])]) (.cons (.refl _) .nil) (.cons (.cons (.refl _) (.cons (.refl _) (.cons (.zero _ _) (.cons (.bu _ _ _) (.cons (.refl _) (.cons (.refl _) .nil)))))) .nil) ?_)))))
    cases h
    exact To.done hΓ (by kernel_rfl)
   ·refine Wp.skip (To.ah (Wp.seq ?_))
    obtain⟨r2,hr2,h⟩:=au h
    refine rc [] 1 [2] [2] [(2,.own 2 0)] [(2,31,[vi r2.av,.str r2.aB,ls r2.aj,tn4 r2.ak,.str [],vi 0])] (pg n o1.2 _ hr2) (To.ah (Wp.ret ?_))
    cases h
    exact To.done hΓ (by kernel_rfl)
  ·replace h:=cH h
   refine To.aQ (To.aA ?_)
   cases h
   exact To.done hΓ (by kernel_rfl)
def ie(n:Nat)(v0:Bs):Nat->Int->Option (Sum (Unit) (Bool))
 |0,_=>none
 |k+1,v3=>if(decide (v3<(List.length v0:Int)))=true then(if(decide (0<=v3/\v3<(List.length v0:Int)))=true then(aS ((bif (bif (bif ((bI (((v0)[Int.toNat v3]?.getD 0).toNat:Int))==0) then true else((bI (((v0)[Int.toNat v3]?.getD 0).toNat:Int))==2)) then true else((bI (((v0)[Int.toNat v3]?.getD 0).toNat:Int))==6)) then true else(bif (v3==0) then(decide ((bI (((v0)[Int.toNat v3]?.getD 0).toNat:Int))>3)) else false)):Bool) fun x1 =>
 if x1=true then(some (.inr false))
 else(ie n v0 k (IntKind.wrap .i64 (v3+1)))) else none)
 else(some (.inl ()))
theorem zI(n:Nat)(v0:Bs)(k:Nat):∀(v3:Int)(o:Sum (Unit) (Bool)),ie n v0 k v3=some o->(Sum.elim (fun s=>To 41 F0 w0 [] [] (.exit 0) Q) (fun s=>To 41 F0 w0 [(2,vb s)] [] .ret Q)) o->WL Tryz.prog 41 F0 w0 [(0,.str v0),(3,vi v3)] [] (cI (cI (cB (cA (cB (cB (cF Tryz.f28))))))) Q:=by
 induction k with
 |zero=>intro v3 o h;cases h
 |succ k ih =>
  intro v3 o h hQ
  rw[ie] at h
  refine WL.round (Wp.seq (Wp.seq (rg [0,3,16] [] [(0,.str v0),(3,vi v3),(16,vb (mM v3 v0))] [] (To.ah (cn h (fun h=>?_) (fun h=>?_))))))
  ·refine Wp.skip (To.ah (Wp.seq (Wp.block (Wp.seq ?_))))
   obtain⟨hc2,h⟩:=ax h
   refine rr [] [(3,vi (bI (bQ v0 v3)))] [] [0,3,4] [] [(0,.str v0),(3,vi v3),(4,vi (bI (bQ v0 v3)))] [] [_,_] (ai.cons hc2 (ai.cons (c1 (rL (bQ v0 v3) _ rfl)) ai.nil)) (To.ah (Wp.seq ?_))
   obtain⟨x1,hx1,h⟩:=aW h
   refine rg [0,3,40] [] [(0,.str v0),(3,vi v3),(40,vb (bif (bif (bif ((bI (bQ v0 v3))==0) then true else((bI (bQ v0 v3))==2)) then true else((bI (bQ v0 v3))==6)) then true else(bif (v3==0) then(decide ((bI (bQ v0 v3))>3)) else false)))] [] (To.eq (K':=[(0,.str v0),(3,vi v3),(40,vb x1)]) (L':=[]) (by cases hx1;rfl) (by cases hx1;rfl) (To.ah (cn h (fun h=>?_) (fun h=>?_))))
   ·refine Wp.seq (rg [2] [] [(2,vb false)] [] (To.ah (Wp.ret (To.aQ (To.aA (To.aA ?_))))))
    cases h
    exact hQ
   ·refine Wp.skip (To.aO (To.ah (rg [0,3] [] [(0,.str v0),(uN v3)] [] (kt [0,3] [] [(0,.str v0),(uN v3)] [] (To.again ?_)))))
    exact ih (IntKind.wrap .i64 (v3+1)) _ h hQ
  ·refine Wp.exit (To.aK (To.aK (kt [] [] [] [] ?_)))
   cases h
   exact hQ
def oq(n:Nat)(a0:Bs):Option (Bool) :=
 if(bif (decide ((List.length a0:Int)<1)) then true else(decide ((List.length a0:Int)>24)))=true then some false
 else((ie n a0 n 0).bind fun o1 =>
 (Sum.elim (fun o1=>some true) (fun o1=>some o1)) o1)
theorem Fe(n:Nat)(a0:Bs)(r:Bool)(h:oq n a0=some r):aJ Tryz.prog 28 [.str a0] (vb r):=by
 unfold oq at h
 refine xo Tryz.f28 rfl fun F0 w0 _=>?_
 refine Wp.seq (rg [0] [] [(0,.str a0)] [] (To.ah (Wp.seq (Wp.seq (rg [0,12] [] [(0,.str a0),(12,vb (SB a0))] [] (To.ah (cn h (fun h=>?_) (fun h=>?_))))))))
 ·refine Wp.seq (rg [2] [] [(2,vb false)] [] (To.ah (Wp.ret (To.aA ?_))))
  cases h
  exact To.done hΓ (by kernel_rfl)
 ·refine Wp.skip (To.ah (Wp.seq (Wp.seq (rg [0,3] [] [(0,.str a0),(3,vi 0)] [] (To.ah (Wp.block ?_))))))
  obtain⟨o1,ho1,h⟩:=au h
  refine kw [0,3] [] [(0,.str a0),(3,vi 0)] [] (Wp.bC (zI n a0 n 0 o1 ho1 ?_))
  rcases o1 with o1|o1
  ·replace h:=cy h
   refine To.aX (To.ah (Wp.seq (rg [2] [] [(2,vb true)] [] (To.ah (Wp.ret ?_)))))
   cases h
   exact To.done hΓ (by kernel_rfl)
  ·replace h:=cH h
   refine To.aQ (To.aA ?_)
   cases h
   exact To.done hΓ (by kernel_rfl)
def rC(n:Nat)(a0:af):Option (Bool) :=
 (gX n a0 1 2000).bind fun r1 =>
 some (decide (r1>=0))
theorem HE(n:Nat)(a0:af)(r:Bool)(h:rC n a0=some r):aJ Tryz.prog 20 [.agg (qc6 a0)] (vb r):=by
 unfold rC at h
 refine xo Tryz.f20 rfl fun F0 w0 _=>?_
 refine Wp.seq (rg [1] [1] [(1,.own 1 0)] [(1,25,qc6 a0)] (To.ah (Wp.seq ?_)))
 obtain⟨r1,hr1,h⟩:=au h
 refine rc [] 1 [2] [] [(2,vb (decide (r1>=0)))] [] (zC n a0 1 2000 _ hr1) (To.ah (Wp.ret ?_))
 cases h
 exact To.done hΓ (by kernel_rfl)
def nZ(n:Nat)(v4:Int)(v5:Bs)(v60:Bool)(b1:af)(b2:aC)(b3:af)(b6:af):Option (Sum (aC×af) (aC)) :=
 if v60=true then((nj n b6).bind fun r3 =>
 if(r3.f_E != 0)=true then(some (.inr r3))
 else(some (.inl (b2,r3.f_N))))
 else(if(v5==[110,97,109,101])=true then(((if((b6.av != 1)==false)=true then oq n b6.aB else some false)).bind fun r4 =>
 if(bif (b6.av != 1) then true else(!r4))=true then(some (.inr (aC.mk (af.mk 0 [] [] []) v5 10)))
 else(some (.inl (b2,b6))))
 else((sN n b6).bind fun r5 =>
 if(!r5.2)=true then(some (.inr (aC.mk (af.mk 0 [] [] []) v5 10)))
 else(some (.inl (b2,r5.1)))))
end Go.Proofs.YtpmmhhmhckpnfaaGreat.M
