import Derived.Test.YtefojkdckfidcaaGreatDoorQPlain
set_option linter.all false
namespace Go.Proofs.YtefojkdckfidcaaGreatDoor.M
open Go.RowKit Go.Proofs.YtefojkdckfidcaaGreatDoor.RX
set_option maxRecDepth 100000
def ff(n:Nat):Ls->Bs->Option (Bs)
 |[],b1000000=>some b1000000
 |x::r,b1000000=>if(decide ((List.length b1000000+List.length x)*(1+1)<=limit))=true then(if(decide ((List.length (b1000000++x)+1)*(1+1)<=limit))=true then(ff n r ((b1000000++x)++[10])) else none) else none
theorem yg(n:Nat)(x:Bs)(r:Ls)(b1000000:Bs)(o:Bs)(h:ff n (x::r) b1000000=some o){F0:Fz}{w0:Pt Tryz.prog}{Lx:ax}:Wp Tryz.prog 34 F0 w0 [(3,.own 1000000 0),(4,.str x)] [(504001,5,[rc8 b1000000]),(1000000,68,[.opt 1000000,.aY 504001])] (cRB (cI (cB (cA (cB (cB (cB (cF Tryz.f18)))))))) (nD F0 w0 (fun(s:Bs)=>ff n r s=some o) (fun(s:Bs)=>[(504001,5,[rc8 s]),(1000000,68,[.opt 1000000,.aY 504001])]) none Lx):=by
 rw[ff] at h
 refine Wp.block (Wp.seq ?_)
 obtain⟨u3,h⟩:=aF h
 refine rb [] 1 ⟨[(1000000,1000000),(1000001,504001)],[(1000000,1000000),(1,504001)],[.own 1000000 0,.str x],[(1000000,68,[.opt 1000000,.aY 1000001]),(1000001,5,[rc8 b1000000])],.tup [vi (List.length x:Int),.val (.nilIface)],[(1000000,68,[.opt 1000000,.aY 1]),(1,5,[rc8 (b1000000++x)])]⟩ [3] [504001,1000000] [(3,.own 1000000 0)] [(504001,5,[rc8 (b1000000++x)]),(1000000,68,[.opt 1000000,.aY 504001])] (writeString (l:=b1000000) (s:=x) u3) (To.ah ?_)
 obtain⟨u4,h⟩:=aF h
 refine rb [] 0 ⟨[(1000000,1000000),(1000001,504001)],[(1000000,1000000),(1,504001)],[.own 1000000 0,.val (.int .u8 10)],[(1000000,68,[.opt 1000000,.aY 1000001]),(1000001,5,[rc8 (b1000000++x)])],.val (.nilIface),[(1000000,68,[.opt 1000000,.aY 1]),(1,5,[rc8 ((b1000000++x)++[10])])]⟩ [3] [504001,1000000] [(3,.own 1000000 0)] [(504001,5,[rc8 ((b1000000++x)++[10])]),(1000000,68,[.opt 1000000,.aY 504001])] (EV (l:=(b1000000++x)) (x:=10) rfl u4) (To.aS ?_)
 exact To.round ((b1000000++x)++[10]) [504001,1000000] h (by kernel_rfl)
def kD(n:Nat)(a0:af):Option (Bs) :=
 if(a0.aD==0)=true then(some [])
 else(if(bif (a0.aD==1) then(bif (a0.aI==sU) then true else(a0.aI==sQ)) else false)=true then((iG n a0.aI).bind fun r1 =>
 if(decide (((List.length r1+List.length ([10]:Bs):Nat):Int)<=9223372036854775807))=true then(some (r1++[10])) else none)
 else((pZ n a0).bind fun xs3 =>
 (ff n xs3 ([]:List (UInt8))).bind fun o4 =>
 some o4))
abbrev LN(x0:af):=(bif (x0.aD==1) then(bif (x0.aI==sU) then true else(x0.aI==sQ)) else false)
theorem uG(n:Nat)(a0:af)(r:Bs)(h:kD n a0=some r):aT Tryz.prog 18 [.agg (qc6 a0)] (.str r):=by
 unfold kD at h
 refine y9 (fn:=Tryz.f18) (by kernel_rfl) rfl (by kernel_rfl) (Nat.le_of_ble_eq_true (by kernel_rfl)) fun F0 w0 _=>?_
 refine kw [0] [] [(0,.agg (qc6 a0))] [] (Wp.seq (rg [1] [1] [(1,.own 1 0)] [(1,26,qc6 a0)] (To.ah (Wp.seq (Wp.block (Wp.seq (rg [1,5] [1] [(1,.own 1 0),(5,vb (a0.aD==0))] [(1,26,qc6 a0)] (To.ah (cn h (fun h=>?_) (fun h=>?_))))))))))
 ·refine Wp.seq (rg [2] [] [(2,.str [])] [] (To.ah (Wp.ret (To.aR (To.aL ?_)))))
  cases h
  first|exact To.yW hΓ hA (by kernel_rfl) (by kernel_rfl)|exact To.vV hΓ (by kernel_rfl)
 ·refine Wp.seq (rg [1,9] [1] [(1,.own 1 0),(9,vb (LN a0))] [(1,26,qc6 a0)] (To.ah (cn h (fun h=>?_) (fun h=>?_))))
  ·refine Wp.seq ?_
   obtain⟨r1,hr1,h⟩:=ay h
   obtain⟨hc2,h⟩:=aF h
   refine rr [] [(2,.str r1)] [] [2] [] [(2,.str (r1++[10]))] [] [_,_] (aj.cons (c1 (lC n a0.aI _ hr1)) (aj.cons hc2 aj.nil)) (To.ah (Wp.ret (To.aR (To.aL ?_))))
   cases h
   first|exact To.yW hΓ hA (by kernel_rfl) (by kernel_rfl)|exact To.vV hΓ (by kernel_rfl)
  ·refine Wp.skip (To.aS (To.ah (Wp.seq (rg [1,3] [1,3] [(1,.own 1 0),(3,.own 3 0)] [(1,26,qc6 a0),(3,68,[.val (.pointer none),.val (.slice none 0 0)])] (To.pre (St.IV 3 4181 5 (by decide) (by kernel_rfl) (L':=[(1,26,qc6 a0),(3,68,[.opt 3,.aY 4181])]) (by kernel_rfl)) (To.ah (Wp.seq (Wp.seq (rr [] [(1,.fn 78 [.el (qc6 a0)])] [] [3,28] [3,4181] [(3,.own 3 0),(28,.fn 78 [.el (qc6 a0)])] [(3,68,[.opt 3,.aY 4181]),(4181,5,[rc8 []])] [(true=true->CX Tryz.prog 43 [.agg (qc6 a0)] (.fn 78 [.el (qc6 a0)]))] (aj.cons (fun _=>cx (xW a0)) aj.nil) (To.ah (Wp.block ?_)))))))))))
   obtain⟨xs3,hxs3,h⟩:=ay h
   obtain⟨o4,ho4,h⟩:=ay h
   refine kw [3,28] [3,4181] [(3,.own 3 0),(28,.fn 78 [.el (qc6 a0)])] [(3,68,[.opt 3,.aY 4181]),(4181,5,[rc8 []])] (Wp.CU (σ:=Bs) (encs:=j3) (xs:=xs3) ⟨[(1000000,3),(1000001,4181)],[(1000000,3),(504001,4181)],[],[(1000000,68,[.opt 1000000,.aY 1000001]),(1000001,5,[rc8 []])],.hole,[(504001,5,[rc8 o4]),(1000000,68,[.opt 1000000,.aY 504001])]⟩ (fun r (s:Bs)=>ff n r s=some o4) (fun(s:Bs)=>[(504001,5,[rc8 s]),(1000000,68,[.opt 1000000,.aY 504001])]) none [3] [3] [(3,.own 1000000 0)] [(3,.own 3 0)] [(4181,5,[rc8 o4]),(3,68,[.opt 3,.aY 4181])] ([]:List (UInt8)) (fun x (s:Bs)=>[(3,.own 1000000 0),(4,.str x)]) (fun x (s:Bs)=>[(504001,5,[rc8 s]),(1000000,68,[.opt 1000000,.aY 504001])]) rfl (by kernel_rfl) (by kernel_rfl) (As n a0 xs3 hxs3) (by kernel_rfl) (by kernel_rfl) (fun s=>by kernel_rfl) (by kernel_rfl) (by kernel_rfl) (by kernel_rfl) ho4 (fun F1 w1 a w h=>St.reL [504001,1000000] (by kernel_rfl) a w (St.restart (L':=[(1000000,68,[.opt 1000000,.aY 504001]),(504001,5,[rc8 []])]) 1000001 504001 (by decide) (by kernel_rfl) (by kernel_rfl) a w (h))) (fun x=>rfl) (by decide) (by decide) (fun x=>by kernel_rfl) (by kernel_rfl) (by kernel_rfl) (fun x s=>by kernel_rfl) (fun s h=>⟨rfl,by rw[ff] at h;cases h;rfl⟩) (by kernel_rfl) (by kernel_rfl) (fun x r s h F1 w1=>?_) (fun x r s h F1 w1=>yg n x r s _ h) (fun F1 w1 hA=>?_))
   ·refine rg [3,4] [504001,1000000] [(3,.own 1000000 0),(4,.str x)] [(504001,5,[rc8 s]),(1000000,68,[.opt 1000000,.aY 504001])] (kt [3,4] [504001,1000000] [(3,.own 1000000 0),(4,.str x)] [(504001,5,[rc8 s]),(1000000,68,[.opt 1000000,.aY 504001])] ?_)
    exact fun a w h=>⟨rfl,h⟩
   ·refine To.aS (To.ah (Wp.seq (rb [] 0 ⟨[(1000000,3),(1000001,4181)],[(1000000,3)],[.own 1000000 0],[(1000000,68,[.opt 1000000,.aY 1000001]),(1000001,5,[rc8 o4])],.str o4,[(1000000,68,[.opt 1000000,.hole])]⟩ [2] [] [(2,.str o4)] [] (JW (l:=o4)) (To.ah (Wp.ret ?_)))))
    cases h
    first|exact To.yW hΓ hA (by kernel_rfl) (by kernel_rfl)|exact To.vV hΓ (by kernel_rfl)
def fl(n:Nat):Ls->Int->Option (Int)
 |[],b1000000=>some b1000000
 |x::r,b1000000=>fl n r (IntKind.wrap .i64 (b1000000+1))
theorem yn(n:Nat)(x:Bs)(r:Ls)(b1000000:Int)(o:Int)(h:fl n (x::r) b1000000=some o){F0:Fz}{w0:Pt Tryz.prog}{Lx:ax}:Wp Tryz.prog 13 F0 w0 [(3,.own 1000000 0)] [(1000000,3,[vi b1000000])] (cRB (cI (cB (cA (cB (cB (cB (cF Tryz.f20)))))))) (nD F0 w0 (fun(s:Int)=>fl n r s=some o) (fun(s:Int)=>[(1000000,3,[vi s])]) none Lx):=by
 rw[fl] at h
 refine Wp.block (rg [3] [1000000] [(3,.own 1000000 0)] [(1000000,3,[vi (IntKind.wrap .i64 (b1000000+1))])] (To.aS ?_))
 exact To.round (IntKind.wrap .i64 (b1000000+1)) [1000000] h (by kernel_rfl)
def kj(n:Nat)(a0:af):Option (Int) :=
 if(a0.aD==0)=true then some 0
 else((pZ n a0).bind fun xs1 =>
 (fl n xs1 0).bind fun o2 =>
 some o2)
theorem uC(n:Nat)(a0:af)(r:Int)(h:kj n a0=some r):aT Tryz.prog 20 [.agg (qc6 a0)] (vi r):=by
 unfold kj at h
 refine y9 (fn:=Tryz.f20) (by kernel_rfl) rfl (by kernel_rfl) (Nat.le_of_ble_eq_true (by kernel_rfl)) fun F0 w0 _=>?_
 refine kw [0] [] [(0,.agg (qc6 a0))] [] (Wp.seq (rg [1] [1] [(1,.own 1 0)] [(1,26,qc6 a0)] (To.ah (Wp.seq (Wp.seq (rg [1,6] [1] [(1,.own 1 0),(6,vb (a0.aD==0))] [(1,26,qc6 a0)] (To.ah (cn h (fun h=>?_) (fun h=>?_)))))))))
 ·refine Wp.seq (rg [2] [] [(2,vi 0)] [] (To.ah (Wp.ret (To.aL ?_))))
  cases h
  first|exact To.yW hΓ hA (by kernel_rfl) (by kernel_rfl)|exact To.vV hΓ (by kernel_rfl)
 ·refine Wp.skip (To.ah (Wp.seq (rg [1,3] [1,3] [(1,.own 1 0),(3,.own 3 0)] [(1,26,qc6 a0),(3,3,[vi 0])] (To.ah (Wp.seq (Wp.seq (rr [] [(1,.fn 78 [.el (qc6 a0)])] [] [3,8] [3] [(3,.own 3 0),(8,.fn 78 [.el (qc6 a0)])] [(3,3,[vi 0])] [(true=true->CX Tryz.prog 43 [.agg (qc6 a0)] (.fn 78 [.el (qc6 a0)]))] (aj.cons (fun _=>cx (xW a0)) aj.nil) (To.ah (Wp.block ?_)))))))))
  obtain⟨xs1,hxs1,h⟩:=ay h
  obtain⟨o2,ho2,h⟩:=ay h
  refine kw [3,8] [3] [(3,.own 3 0),(8,.fn 78 [.el (qc6 a0)])] [(3,3,[vi 0])] (Wp.CU (σ:=Int) (encs:=j3) (xs:=xs1) ⟨[(1000000,3)],[(1000000,3)],[],[(1000000,3,[vi 0])],.hole,[(1000000,3,[vi o2])]⟩ (fun r (s:Int)=>fl n r s=some o2) (fun(s:Int)=>[(1000000,3,[vi s])]) none [3] [3] [(3,.own 1000000 0)] [(3,.own 3 0)] [(3,3,[vi o2])] 0 (fun x (s:Int)=>[(3,.own 1000000 0)]) (fun x (s:Int)=>[(1000000,3,[vi s])]) rfl (by kernel_rfl) (by kernel_rfl) (As n a0 xs1 hxs1) (by kernel_rfl) (by kernel_rfl) (fun s=>by kernel_rfl) (by kernel_rfl) (by kernel_rfl) (by kernel_rfl) ho2 (fun F1 w1 a w h=>h) (fun x=>rfl) (by decide) (by decide) (fun x=>by kernel_rfl) (by kernel_rfl) (by kernel_rfl) (fun x s=>by kernel_rfl) (fun s h=>⟨rfl,by rw[fl] at h;cases h;rfl⟩) (by kernel_rfl) (by kernel_rfl) (fun x r s h F1 w1=>?_) (fun x r s h F1 w1=>yn n x r s _ h) (fun F1 w1 hA=>?_))
  ·refine Wp.skip (kt [3] [1000000] [(3,.own 1000000 0)] [(1000000,3,[vi s])] ?_)
   exact fun a w h=>⟨rfl,h⟩
  ·refine To.aS (To.ah (Wp.seq (rg [2] [] [(2,vi o2)] [] (To.ah (Wp.ret ?_)))))
   cases h
   first|exact To.yW hΓ hA (by kernel_rfl) (by kernel_rfl)|exact To.vV hΓ (by kernel_rfl)
def kT(n:Nat):Option (Bool) :=
 (kU n Il).bind fun r1 =>
 ((if((r1.2.2==0)==true)=true then kD n r1.1 else some [])).bind fun r2 =>
 ((if((bif (r1.2.2==0) then(r2==C5) else false)==true)=true then kj n r1.1 else some 0)).bind fun r3 =>
 bM ((bif (bif (r1.2.2==0) then(r2==C5) else false) then(r3==4) else false):Bool) fun x4 =>
 some x4
theorem sZ(n:Nat)(r:Bool)(h:kT n=some r):aT Tryz.prog 17 [] (vb r):=by
 unfold kT at h
 refine xo Tryz.f17 rfl fun F0 w0 _=>?_
 refine Wp.seq (rg [] [] [] [] (To.ah (Wp.seq ?_)))
 obtain⟨r1,hr1,h⟩:=ay h
 refine rc [] 0 [1,3] [1] [(1,.own 1 0),(3,vi r1.2.2)] [(1,26,qc6 r1.1)] (Ah n Il _ hr1) (To.ah (Wp.seq ?_))
 obtain⟨r2,hr2,h⟩:=ay h
 obtain⟨r3,hr3,h⟩:=ay h
 obtain⟨x4,hx4,h⟩:=aW h
 refine rr [] [(4,.str r2),(9,vi r3)] [] [0] [] [(0,vb (bif (bif (r1.2.2==0) then(r2==C5) else false) then(r3==4) else false))] [] [(((r1.2.2==0)==true)=true->CX Tryz.prog 18 [.agg (qc6 r1.1)] (.str r2)),(((bif (r1.2.2==0) then(r2==C5) else false)==true)=true->CX Tryz.prog 20 [.agg (qc6 r1.1)] (vi r3))] (aj.cons (fun hg=>cx (uG n r1.1 _ (iq hg hr2))) (aj.cons (fun hg=>cx (uC n r1.1 _ (iq hg hr3))) aj.nil)) (To.eq (K':=[(0,vb x4)]) (L':=[]) (by cases hx4;rfl) (by cases hx4;rfl) (To.ah (Wp.ret ?_)))
 cases h
 exact To.done hΓ (by kernel_rfl)
def iU(a0:af):Bool :=
 (bif (decide (a0.aD<2)) then true else((List.length a0.ai:Int)==0))
theorem oV(a0:af)(r:Bool)(h:iU a0=r):aT Tryz.prog 47 [.agg (qc6 a0)] (vb r):=by
 unfold iU at h
 refine xo Tryz.f47 rfl fun F0 w0 _=>?_
 refine Wp.seq (rg [1] [1] [(1,.own 1 0)] [(1,26,qc6 a0)] (To.ah (Wp.seq (rg [2] [] [(2,vb (bif (decide (a0.aD<2)) then true else((List.length a0.ai:Int)==0)))] [] (To.ah (Wp.ret ?_))))))
 cases h
 exact To.done hΓ (by kernel_rfl)
def jZ(n:Nat)(v0:Int)(v1:Bs):Nat->Int->Option (Sum (Unit) (Bool))
 |0,_=>none
 |k+1,v5=>if(decide (v5<(List.length v1:Int)))=true then(if(decide (0<=v5/\v5<(List.length v1:Int)))=true then(if((((v1)[Int.toNat v5]?.getD 0).toNat:Int)==v0)=true then(some (.inr true))
 else(jZ n v0 v1 k (IntKind.wrap .i64 (v5+1)))) else none)
 else(some (.inl ()))
variable {F0:Fz} {w0:Pt Tryz.prog} {Q:Exit->Act->World->Prop}
theorem zh(n:Nat)(v0:Int)(v1:Bs)(k:Nat):∀(v5:Int)(o:Sum (Unit) (Bool)),jZ n v0 v1 k v5=some o->(Sum.elim (fun s=>To 17 F0 w0 [] [] (.exit 0) Q) (fun s=>To 17 F0 w0 [(4,vb s)] [] .ret Q)) o->WL Tryz.prog 17 F0 w0 [(0,.val (.int .u8 v0)),(1,.str v1),(5,vi v5)] [] (cI (cI (cB (cA (cB (cF Tryz.f74)))))) Q:=by
 induction k with
 |zero=>intro v5 o h;cases h
 |succ k ih =>
  intro v5 o h hQ
  rw[jZ] at h
  refine WL.round (Wp.seq (Wp.seq (rg [0,1,5,9] [] [(0,.val (.int .u8 v0)),(1,.str v1),(5,vi v5),(9,vb (tQ v5 v1))] [] (To.ah (cn h (fun h=>?_) (fun h=>?_))))))
  ·refine Wp.skip (To.ah (Wp.seq (Wp.block (Wp.seq ?_))))
   obtain⟨hc1,h⟩:=aF h
   refine r0 [0,1,5,16] [] [(0,.val (.int .u8 v0)),(1,.str v1),(5,vi v5),(16,vb ((ex9 v1 v5)==v0))] [] (aj.cons hc1 aj.nil) (To.ah (cn h (fun h=>?_) (fun h=>?_)))
   ·refine Wp.seq (rg [4] [] [(4,vb true)] [] (To.ah (Wp.ret (To.aR (To.aL (To.aL ?_))))))
    cases h
    exact hQ
   ·refine Wp.skip (To.aS (To.ah (rg [0,1,5] [] [(0,.val (.int .u8 v0)),(1,.str v1),(ex2 v5)] [] (kt [0,1,5] [] [(0,.val (.int .u8 v0)),(1,.str v1),(ex2 v5)] [] (To.again ?_)))))
    exact ih (IntKind.wrap .i64 (v5+1)) _ h hQ
  ·refine Wp.exit (To.bU (To.bU (kt [] [] [] [] ?_)))
   cases h
   exact hQ
def ny(n:Nat)(a0:Int)(a1:Bs):Option (Bool) :=
 (jZ n a0 a1 n 0).bind fun o1 =>
 (Sum.elim (fun o1=>some false) (fun o1=>some o1)) o1
theorem C7(n:Nat)(a0:Int)(a1:Bs)(r:Bool)(h:ny n a0 a1=some r):aT Tryz.prog 74 [.val (.int .u8 a0),.str a1] (vb r):=by
 unfold ny at h
 refine xo Tryz.f74 rfl fun F0 w0 _=>?_
 refine Wp.seq (rg [0,1] [] [(0,.val (.int .u8 a0)),(1,.str a1)] [] (To.ah (Wp.seq (Wp.seq (rg [0,1,5] [] [(0,.val (.int .u8 a0)),(1,.str a1),(5,vi 0)] [] (To.ah (Wp.block ?_)))))))
 obtain⟨o1,ho1,h⟩:=ay h
 refine kw [0,1,5] [] [(0,.val (.int .u8 a0)),(1,.str a1),(5,vi 0)] [] (Wp.fP (zh n a0 a1 n 0 o1 ho1 ?_))
 rcases o1 with o1|o1
 ·replace h:=fZ h
  refine To.dW (To.ah (Wp.seq (rg [4] [] [(4,vb false)] [] (To.ah (Wp.ret ?_)))))
  cases h
  exact To.done hΓ (by kernel_rfl)
 ·replace h:=gv h
  refine To.aR (To.aL ?_)
  cases h
  exact To.done hΓ (by kernel_rfl)
def jB(a0:Int):Bool :=
 (bif (bif (decide (a0>=32)) then(decide (a0<=126)) else false) then true else(decide (a0>=128)))
theorem uD(a0:Int)(r:Bool)(h:jB a0=r):aT Tryz.prog 75 [.val (.int .u8 a0)] (vb r):=by
 unfold jB at h
 refine xo Tryz.f75 rfl fun F0 w0 _=>?_
 refine Wp.seq (rg [0] [] [(0,.val (.int .u8 a0))] [] (To.ah (Wp.seq (rg [2] [] [(2,vb (bif (bif (decide (a0>=32)) then(decide (a0<=126)) else false) then true else(decide (a0>=128))))] [] (To.ah (Wp.ret ?_))))))
 cases h
 exact To.done hΓ (by kernel_rfl)
def ij(n:Nat)(v0:Bs)(v3:Int):Nat->Int->Option (Sum (Unit) (Bool))
 |0,_=>none
 |k+1,v4=>if(decide (v4<v3))=true then(if(decide (0<=v4/\v4<(List.length v0:Int)))=true then(if(!(jB (((v0)[Int.toNat v4]?.getD 0).toNat:Int)))=true then(some (.inr false))
 else(if(decide (0<=v4/\v4<(List.length v0:Int)))=true then(if((!(((v4==(IntKind.wrap .i64 (v3-1)))==false)&&(((((v0)[Int.toNat v4]?.getD 0).toNat:Int)==58)==true))||decide (0<=(IntKind.wrap .i64 (v4+1))/\(IntKind.wrap .i64 (v4+1))<(List.length v0:Int))))=true then(bM ((bif ((((v0)[Int.toNat v4]?.getD 0).toNat:Int)==58) then(bif (v4==(IntKind.wrap .i64 (v3-1))) then true else((((v0)[Int.toNat (IntKind.wrap .i64 (v4+1))]?.getD 0).toNat:Int)==32)) else false):Bool) fun x4 =>
 if x4=true then(some (.inr false))
 else(if(decide (0<=v4/\v4<(List.length v0:Int)))=true then(if((!((bif ((((v0)[Int.toNat v4]?.getD 0).toNat:Int)==35) then(decide (v4>0)) else false)==true)||decide (0<=(IntKind.wrap .i64 (v4-1))/\(IntKind.wrap .i64 (v4-1))<(List.length v0:Int))))=true then(bM ((bif (bif ((((v0)[Int.toNat v4]?.getD 0).toNat:Int)==35) then(decide (v4>0)) else false) then((((v0)[Int.toNat (IntKind.wrap .i64 (v4-1))]?.getD 0).toNat:Int)==32) else false):Bool) fun x5 =>
 if x5=true then(some (.inr false))
 else(ij n v0 v3 k (IntKind.wrap .i64 (v4+1)))) else none) else none)) else none) else none)) else none)
 else(some (.inl ()))
theorem wR(n:Nat)(v0:Bs)(v3:Int)(k:Nat):∀(v4:Int)(o:Sum (Unit) (Bool)),ij n v0 v3 k v4=some o->(Sum.elim (fun s=>To 86 F0 w0 [] [] (.exit 0) Q) (fun s=>To 86 F0 w0 [(2,vb s)] [] .ret Q)) o->WL Tryz.prog 86 F0 w0 [(0,.str v0),(3,vi v3),(4,vi v4)] [] (cI (cI (cB (cA (cB (cB (cB (cB (cB (cF Tryz.f38)))))))))) Q:=by
 induction k with
 |zero=>intro v4 o h;cases h
 |succ k ih =>
  intro v4 o h hQ
  rw[ij] at h
  refine WL.round (Wp.seq (Wp.seq (rg [0,3,4,46] [] [(0,.str v0),(3,vi v3),(4,vi v4),(46,vb (decide (v4<v3)))] [] (To.ah (cn h (fun h=>?_) (fun h=>?_))))))
  ·refine Wp.skip (To.ah (Wp.seq (Wp.block (Wp.seq (Wp.seq ?_)))))
   obtain⟨hc10,h⟩:=aF h
   refine rr [] [(3,vb (jB (ex9 v0 v4)))] [] [0,3,4,53] [] [(0,.str v0),(3,vi v3),(4,vi v4),(53,vb (!(jB (ex9 v0 v4))))] [] [_,_] (aj.cons hc10 (aj.cons (c1 (uD (ex9 v0 v4) _ rfl)) aj.nil)) (To.ah (cn h (fun h=>?_) (fun h=>?_)))
   ·refine Wp.seq (rg [2] [] [(2,vb false)] [] (To.ah (Wp.ret (To.aL (To.aR (To.aL (To.aL ?_)))))))
    cases h
    exact hQ
   ·refine Wp.skip (To.ah (Wp.seq (Wp.seq ?_)))
    obtain⟨hc8,h⟩:=aF h
    obtain⟨hc9,h⟩:=aF h
    obtain⟨x4,hx4,h⟩:=aW h
    refine r0 [0,3,4,70] [] [(0,.str v0),(3,vi v3),(4,vi v4),(70,vb (bif ((ex9 v0 v4)==58) then(bif (v4==(IntKind.wrap .i64 (v3-1))) then true else((((v0)[Int.toNat (IntKind.wrap .i64 (v4+1))]?.getD 0).toNat:Int)==32)) else false))] [] (aj.cons hc8 (aj.cons hc9 aj.nil)) (To.eq (K':=[(0,.str v0),(3,vi v3),(4,vi v4),(70,vb x4)]) (L':=[]) (by cases hx4;rfl) (by cases hx4;rfl) (To.ah (cn h (fun h=>?_) (fun h=>?_))))
    ·refine Wp.seq (rg [2] [] [(2,vb false)] [] (To.ah (Wp.ret (To.aL (To.aR (To.aL (To.aL ?_)))))))
     cases h
     exact hQ
    ·refine Wp.skip (To.ah (Wp.seq ?_))
     obtain⟨hc6,h⟩:=aF h
     obtain⟨hc7,h⟩:=aF h
     obtain⟨x5,hx5,h⟩:=aW h
     refine r0 [0,3,4,85] [] [(0,.str v0),(3,vi v3),(4,vi v4),(85,vb (bif (bif ((ex9 v0 v4)==35) then(decide (v4>0)) else false) then((vI v0 v4)==32) else false))] [] (aj.cons hc6 (aj.cons hc7 aj.nil)) (To.eq (K':=[(0,.str v0),(3,vi v3),(4,vi v4),(85,vb x5)]) (L':=[]) (by cases hx5;rfl) (by cases hx5;rfl) (To.ah (cn h (fun h=>?_) (fun h=>?_))))
     ·refine Wp.seq (rg [2] [] [(2,vb false)] [] (To.ah (Wp.ret (To.aR (To.aL (To.aL ?_))))))
      cases h
      exact hQ
     ·refine Wp.skip (To.aS (To.ah (rg [0,3,4] [] [(0,.str v0),(3,vi v3),(ex7 v4)] [] (kt [0,3,4] [] [(0,.str v0),(3,vi v3),(ex7 v4)] [] (To.again ?_)))))
      exact ih (IntKind.wrap .i64 (v4+1)) _ h hQ
  ·refine Wp.exit (To.bU (To.bU (kt [] [] [] [] ?_)))
   cases h
   exact hQ
def mQ(n:Nat)(a0:Bs):Option (Bool) :=
 if((!((bif (bif ((List.length a0:Int)==0) then true else(a0==[126])) then true else(a0==lg))==false)||decide (0<=(0:Int)/\(0:Int)<(List.length a0:Int))))=true then(if((!((bif (bif (bif ((List.length a0:Int)==0) then true else(a0==[126])) then true else(a0==lg)) then true else((((a0)[Int.toNat 0]?.getD 0).toNat:Int)==32))==false)||decide (0<=(IntKind.wrap .i64 ((List.length a0:Int)-1))/\(IntKind.wrap .i64 ((List.length a0:Int)-1))<(List.length a0:Int))))=true then(bM ((bif (bif (bif (bif ((List.length a0:Int)==0) then true else(a0==[126])) then true else(a0==lg)) then true else((((a0)[Int.toNat 0]?.getD 0).toNat:Int)==32)) then true else((((a0)[Int.toNat (IntKind.wrap .i64 ((List.length a0:Int)-1))]?.getD 0).toNat:Int)==32)):Bool) fun x1 =>
 if x1=true then some false
 else(if(decide (0<=(0:Int)/\(0:Int)<(List.length a0:Int)))=true then((ny n (((a0)[Int.toNat 0]?.getD 0).toNat:Int) vn).bind fun r2 =>
 if r2=true then some false
 else(if(decide (0<=(0:Int)/\(0:Int)<(List.length a0:Int)))=true then(if((!((((List.length a0:Int)==1)==false)&&(((((a0)[Int.toNat 0]?.getD 0).toNat:Int)==45)==true))||decide (0<=(1:Int)/\(1:Int)<(List.length a0:Int))))=true then(bM ((bif ((((a0)[Int.toNat 0]?.getD 0).toNat:Int)==45) then(bif ((List.length a0:Int)==1) then true else((((a0)[Int.toNat 1]?.getD 0).toNat:Int)==32)) else false):Bool) fun x3 =>
 if x3=true then some false
 else((ij n a0 (List.length a0:Int) n 0).bind fun o4 =>
 (Sum.elim (fun o4=>some true) (fun o4=>some o4)) o4)) else none) else none)) else none)) else none) else none
abbrev MP(x0:Bs):=(bif (bif ((List.length x0:Int)==0) then true else(x0==[126])) then true else(x0==lg))
abbrev uX(x0:Bs):Nat×D:=(3,vi (List.length x0:Int))
abbrev MS(x0:Bs):=((((x0)[Int.toNat (Ld x0)]?.getD 0).toNat:Int)==32)
theorem zw(n:Nat)(a0:Bs)(r:Bool)(h:mQ n a0=some r):aT Tryz.prog 38 [.str a0] (vb r):=by
 unfold mQ at h
 refine xo Tryz.f38 rfl fun F0 w0 _=>?_
 refine Wp.seq (rg [0] [] [(0,.str a0)] [] (To.ah (Wp.seq (rg [0,3] [] [(0,.str a0),(uX a0)] [] (To.ah (Wp.seq (Wp.seq ?_)))))))
 obtain⟨hc8,h⟩:=aF h
 obtain⟨hc9,h⟩:=aF h
 obtain⟨x1,hx1,h⟩:=aW h
 refine r0 [0,3,28] [] [(0,.str a0),(uX a0),(28,vb (bif (bif (MP a0) then true else((lV a0)==32)) then true else(MS a0)))] [] (aj.cons hc8 (aj.cons hc9 aj.nil)) (To.eq (K':=[(0,.str a0),(uX a0),(28,vb x1)]) (L':=[]) (by cases hx1;rfl) (by cases hx1;rfl) (To.ah (cn h (fun h=>?_) (fun h=>?_))))
 ·refine Wp.seq (rg [2] [] [(2,vb false)] [] (To.ah (Wp.ret (To.aL ?_))))
  cases h
  exact To.done hΓ (by kernel_rfl)
 ·refine Wp.skip (To.ah (Wp.seq (Wp.seq ?_)))
  obtain⟨hc7,h⟩:=aF h
  obtain⟨r2,hr2,h⟩:=ay h
  refine rr [] [(2,vb r2)] [] [0,3,31] [] [(0,.str a0),(uX a0),(31,vb r2)] [] [_,_] (aj.cons hc7 (aj.cons (c1 (C7 n (lV a0) vn _ hr2)) aj.nil)) (To.ah (cn h (fun h=>?_) (fun h=>?_)))
  ·refine Wp.seq (rg [2] [] [(2,vb false)] [] (To.ah (Wp.ret (To.aL ?_))))
   cases h
   exact To.done hΓ (by kernel_rfl)
  ·refine Wp.skip (To.ah (Wp.seq (Wp.seq ?_)))
   obtain⟨hc5,h⟩:=aF h
   obtain⟨hc6,h⟩:=aF h
   obtain⟨x3,hx3,h⟩:=aW h
   refine r0 [0,3,43] [] [(0,.str a0),(uX a0),(43,vb (bif ((lV a0)==45) then(bif ((List.length a0:Int)==1) then true else((ex8 a0)==32)) else false))] [] (aj.cons hc5 (aj.cons hc6 aj.nil)) (To.eq (K':=[(0,.str a0),(uX a0),(43,vb x3)]) (L':=[]) (by cases hx3;rfl) (by cases hx3;rfl) (To.ah (cn h (fun h=>?_) (fun h=>?_))))
   ·refine Wp.seq (rg [2] [] [(2,vb false)] [] (To.ah (Wp.ret (To.aL ?_))))
    cases h
    exact To.done hΓ (by kernel_rfl)
   ·refine Wp.skip (To.ah (Wp.seq (Wp.seq (rg [0,3,4] [] [(0,.str a0),(uX a0),(4,vi 0)] [] (To.ah (Wp.block ?_))))))
    obtain⟨o4,ho4,h⟩:=ay h
    refine kw [0,3,4] [] [(0,.str a0),(uX a0),(4,vi 0)] [] (Wp.fP (wR n a0 (List.length a0:Int) n 0 o4 ho4 ?_))
    rcases o4 with o4|o4
    ·replace h:=fZ h
     refine To.dW (To.ah (Wp.seq (rg [2] [] [(2,vb true)] [] (To.ah (Wp.ret ?_)))))
     cases h
     exact To.done hΓ (by kernel_rfl)
    ·replace h:=gv h
     refine To.aR (To.aL ?_)
     cases h
     exact To.done hΓ (by kernel_rfl)
def fY(a0:Int):Int :=
 if(decide (a0<10))=true then((IntKind.wrap .u8 (48+a0)))
 else((IntKind.wrap .u8 (87+a0)))
theorem tG(a0:Int)(r:Int)(h:fY a0=r):aT Tryz.prog 84 [.val (.int .u8 a0)] (.val (.int .u8 r)):=by
 unfold fY at h
 refine xo Tryz.f84 rfl fun F0 w0 _=>?_
 refine Wp.seq (rg [0] [] [(0,.val (.int .u8 a0))] [] (To.ah (Wp.seq (Wp.seq (rg [0,4] [] [(0,.val (.int .u8 a0)),(4,vb (decide (a0<10)))] [] (To.ah (cn h (fun h=>?_) (fun h=>?_))))))))
 ·refine Wp.seq (rg [2] [] [(2,.val (.int .u8 (IntKind.wrap .u8 (48+a0))))] [] (To.ah (Wp.ret (To.aL ?_))))
  cases h
  exact To.done hΓ (by kernel_rfl)
 ·refine Wp.skip (To.ah (Wp.seq (rg [2] [] [(2,.val (.int .u8 (IntKind.wrap .u8 (87+a0))))] [] (To.ah (Wp.ret ?_)))))
  cases h
  exact To.done hΓ (by kernel_rfl)
def jG(n:Nat)(v0:Bs)(v3:List (UInt8))(v4:Int):Option ((List (UInt8))) :=
 if(decide (0<=v4/\v4<(List.length v0:Int)))=true then(bM ((bif ((((v0)[Int.toNat v4]?.getD 0).toNat:Int)==34) then true else((((v0)[Int.toNat v4]?.getD 0).toNat:Int)==92)):Bool) fun x1 =>
 if x1=true then(if(decide ((List.length v3+List.length ([92,((v0)[Int.toNat v4]?.getD 0)]:List (UInt8)))*(1+1)<=limit))=true then(some (v3++([92,((v0)[Int.toNat v4]?.getD 0)]:List (UInt8)))) else none)
 else(if((((v0)[Int.toNat v4]?.getD 0).toNat:Int)==10)=true then(if(decide ((List.length v3+List.length ([92,110]:List (UInt8)))*(1+1)<=limit))=true then(some (v3++([92,110]:List (UInt8)))) else none)
 else(if((((v0)[Int.toNat v4]?.getD 0).toNat:Int)==9)=true then(if(decide ((List.length v3+List.length ([92,116]:List (UInt8)))*(1+1)<=limit))=true then(some (v3++([92,116]:List (UInt8)))) else none)
 else(if(!(jB (((v0)[Int.toNat v4]?.getD 0).toNat:Int)))=true then(if((16 != 0))=true then(bM (fY (IntKind.wrap .u8 (Int.tdiv (((v0)[Int.toNat v4]?.getD 0).toNat:Int) 16))) fun r5 =>
 bM (fY (Int.tmod (((v0)[Int.toNat v4]?.getD 0).toNat:Int) 16)) fun r6 =>
 if(decide (0<=r5/\r5<256))=true then(if(decide (0<=r6/\r6<256))=true then(if(decide ((List.length v3+List.length ([92,120,(UInt8.ofNat (Int.toNat r5)),(UInt8.ofNat (Int.toNat r6))]:List (UInt8)))*(1+1)<=limit))=true then(some (v3++([92,120,(UInt8.ofNat (Int.toNat r5)),(UInt8.ofNat (Int.toNat r6))]:List (UInt8)))) else none) else none) else none) else none)
 else(if(decide ((List.length v3+List.length ([((v0)[Int.toNat v4]?.getD 0)]:List (UInt8)))*(1+1)<=limit))=true then(some (v3++([((v0)[Int.toNat v4]?.getD 0)]:List (UInt8)))) else none))))) else none
theorem vf(n:Nat)(v0:Bs)(v3:List (UInt8))(v4:Int)(o:(List (UInt8)))(h:jG n v0 v3 v4=some o)(hQ:To 57 F0 w0 [(0,.str v0),(3,.row 1003),(4,vi v4)] [(1003,5,[rc8 o])] .normal Q):Wp Tryz.prog 57 F0 w0 [(0,.str v0),(3,.row 1003),(4,vi v4)] [(1003,5,[rc8 v3])] (cA (cB (cI (cI (cB (cA (cB (cB (cF Tryz.f52))))))))) Q:=by
 unfold jG at h
 refine Wp.block (Wp.seq ?_)
 obtain⟨hc12,h⟩:=aF h
 refine r0 [0,3,4,5] [1003] [(0,.str v0),(3,.row 1003),(4,vi v4),(qj v0 v4)] [(1003,5,[rc8 v3])] (aj.cons hc12 aj.nil) (To.ah (Wp.seq ?_))
 obtain⟨x1,hx1,h⟩:=aW h
 refine rg [0,3,4,5,21] [1003] [(0,.str v0),(3,.row 1003),(4,vi v4),(qj v0 v4),(21,vb (bif ((ex9 v0 v4)==34) then true else((ex9 v0 v4)==92)))] [(1003,5,[rc8 v3])] (To.eq (K':=[(0,.str v0),(3,.row 1003),(4,vi v4),(qj v0 v4),(21,vb x1)]) (L':=[(1003,5,[rc8 v3])]) (by cases hx1;rfl) (by cases hx1;rfl) (To.ah (cn h (fun h=>?_) (fun h=>?_))))
 ·obtain⟨hc2,h⟩:=aF h
  refine rr [] [(2,rs9 ([92,((v0)[Int.toNat v4]?.getD 0)])),(3,rs9 (v3++(nJ v0 v4)))] [] [0,3,4] [25] [(0,.str v0),(3,.row 25),(4,vi v4)] [(25,5,[rc8 (v3++(nJ v0 v4))])] [(dC 1 [.val (.int .u8 92),.val (.int .u8 (ex9 v0 v4))] 2 (rs9 ([92,((v0)[Int.toNat v4]?.getD 0)]))/\aQ (rs9 ([92,((v0)[Int.toNat v4]?.getD 0)]))),_,(eQ 0 e8 v3 (List.flatMap e8 (nJ v0 v4)) (List.length (nJ v0 v4)) (rs9 (v3++(nJ v0 v4)))/\aQ (rs9 (v3++(nJ v0 v4))))] (aj.cons (fL (iE.cells (ns:=[92,(ex9 v0 v4)]) (.cons rfl (.cons rfl .nil))) rfl rfl (dh _)) (aj.cons hc2 (aj.cons (eG rfl rfl (dh _)) aj.nil))) (To.aS (nt [0,3,4] [25] [(25,1003)] [0,3,4] [1003] [(0,.str v0),(3,.row 1003),(4,vi v4)] [(1003,5,[rc8 (v3++(nJ v0 v4))])] ?_))
  cases h
  exact hQ
 ·refine Wp.seq (rg [0,3,4,5,27] [1003] [(0,.str v0),(3,.row 1003),(4,vi v4),(qj v0 v4),(27,vb ((ex9 v0 v4)==10))] [(1003,5,[rc8 v3])] (To.ah (cn h (fun h=>?_) (fun h=>?_))))
  ·obtain⟨hc3,h⟩:=aF h
   refine rr [] [(1,rs9 [92,110]),(2,rs9 (su v3))] [] [0,3,4] [30] [(0,.str v0),(3,.row 30),(4,vi v4)] [(30,5,[rc8 (su v3)])] [(dC 1 [.val (.int .u8 92),.val (.int .u8 110)] 2 (rs9 [92,110])/\aQ (rs9 [92,110])),_,(eQ 0 e8 v3 (List.flatMap e8 ([92,110]:List (UInt8))) (List.length ([92,110]:List (UInt8))) (rs9 (su v3))/\aQ (rs9 (su v3)))] (aj.cons (fL (iE.cells (ns:=[92,110]) (.cons rfl (.cons rfl .nil))) rfl rfl (dh _)) (aj.cons hc3 (aj.cons (eG rfl rfl (dh _)) aj.nil))) (To.aS (nt [0,3,4] [30] [(30,1003)] [0,3,4] [1003] [(0,.str v0),(3,.row 1003),(4,vi v4)] [(1003,5,[rc8 (su v3)])] ?_))
   cases h
   exact hQ
  ·refine Wp.seq (rg [0,3,4,5,32] [1003] [(0,.str v0),(3,.row 1003),(4,vi v4),(qj v0 v4),(32,vb ((ex9 v0 v4)==9))] [(1003,5,[rc8 v3])] (To.ah (cn h (fun h=>?_) (fun h=>?_))))
   ·obtain⟨hc4,h⟩:=aF h
    refine rr [] [(1,rs9 [92,116]),(2,rs9 (sD v3))] [] [0,3,4] [35] [(0,.str v0),(3,.row 35),(4,vi v4)] [(35,5,[rc8 (sD v3)])] [(dC 1 [.val (.int .u8 92),.val (.int .u8 116)] 2 (rs9 [92,116])/\aQ (rs9 [92,116])),_,(eQ 0 e8 v3 (List.flatMap e8 ([92,116]:List (UInt8))) (List.length ([92,116]:List (UInt8))) (rs9 (sD v3))/\aQ (rs9 (sD v3)))] (aj.cons (fL (iE.cells (ns:=[92,116]) (.cons rfl (.cons rfl .nil))) rfl rfl (dh _)) (aj.cons hc4 (aj.cons (eG rfl rfl (dh _)) aj.nil))) (To.aS (nt [0,3,4] [35] [(35,1003)] [0,3,4] [1003] [(0,.str v0),(3,.row 1003),(4,vi v4)] [(1003,5,[rc8 (sD v3)])] ?_))
    cases h
    exact hQ
   ·refine Wp.seq (rc [] 1 [0,3,4,5,38] [1003] [(0,.str v0),(3,.row 1003),(4,vi v4),(qj v0 v4),(38,vb (!(jB (ex9 v0 v4))))] [(1003,5,[rc8 v3])] (uD (ex9 v0 v4) _ rfl) (To.ah (cn h (fun h=>?_) (fun h=>?_))))
    ·obtain⟨hc9,h⟩:=aF h
     obtain⟨r5,hr5,h⟩:=aW h
     obtain⟨r6,hr6,h⟩:=aW h
     obtain⟨u7,h⟩:=aF h
     obtain⟨u8,h⟩:=aF h
     obtain⟨hc10,h⟩:=aF h
     refine rr [] [(3,.val (.int .u8 r5)),(6,.val (.int .u8 r6)),(7,rs9 [92,120,(UInt8.ofNat (Int.toNat r5)),(UInt8.ofNat (Int.toNat r6))]),(8,rs9 (v3++([92,120,(UInt8.ofNat (Int.toNat r5)),(UInt8.ofNat (Int.toNat r6))]:List (UInt8))))] [] [0,3,4] [47] [(0,.str v0),(3,.row 47),(4,vi v4)] [(47,5,[rc8 (v3++([92,120,(UInt8.ofNat (Int.toNat r5)),(UInt8.ofNat (Int.toNat r6))]:List (UInt8)))])] [_,_,_,_,(dC 1 [.val (.int .u8 92),.val (.int .u8 120),.val (.int .u8 r5),.val (.int .u8 r6)] 4 (rs9 [92,120,(UInt8.ofNat (Int.toNat r5)),(UInt8.ofNat (Int.toNat r6))])/\aQ (rs9 [92,120,(UInt8.ofNat (Int.toNat r5)),(UInt8.ofNat (Int.toNat r6))])),_,(eQ 0 e8 v3 (List.flatMap e8 ([92,120,(UInt8.ofNat (Int.toNat r5)),(UInt8.ofNat (Int.toNat r6))]:List (UInt8))) (List.length ([92,120,(UInt8.ofNat (Int.toNat r5)),(UInt8.ofNat (Int.toNat r6))]:List (UInt8))) (rs9 (v3++([92,120,(UInt8.ofNat (Int.toNat r5)),(UInt8.ofNat (Int.toNat r6))]:List (UInt8))))/\aQ (rs9 (v3++([92,120,(UInt8.ofNat (Int.toNat r5)),(UInt8.ofNat (Int.toNat r6))]:List (UInt8)))))] (aj.cons hc9 (aj.cons (c1 (tG (IntKind.wrap .u8 (Int.tdiv (ex9 v0 v4) 16)) _ hr5)) (aj.cons hc9 (aj.cons (c1 (tG (Int.tmod (ex9 v0 v4) 16) _ hr6)) (aj.cons (fL (iE.cells (ns:=[92,120,r5,r6]) (.cons rfl (.cons rfl (.cons (Gf u7) (.cons (Gf u8) .nil))))) rfl rfl (dh _)) (aj.cons hc10 (aj.cons (eG rfl rfl (dh _)) aj.nil))))))) (To.aS (nt [0,3,4] [47] [(47,1003)] [0,3,4] [1003] [(0,.str v0),(3,.row 1003),(4,vi v4)] [(1003,5,[rc8 (v3++([92,120,(UInt8.ofNat (Int.toNat r5)),(UInt8.ofNat (Int.toNat r6))]:List (UInt8)))])] ?_))
     cases h
     exact hQ
    ·obtain⟨hc11,h⟩:=aF h
     refine rr [] [(2,rs9 (zI v0 v4)),(3,rs9 (v3++(jL v0 v4)))] [] [0,3,4] [51] [(0,.str v0),(3,.row 51),(4,vi v4)] [(51,5,[rc8 (v3++(jL v0 v4))])] [(E6 v0 v4),_,(FB v3 v0 v4)] (aj.cons (fL (iE.cells (ns:=[(ex9 v0 v4)]) (.cons rfl .nil)) rfl rfl (dh _)) (aj.cons hc11 (aj.cons (eG rfl rfl (dh _)) aj.nil))) (To.aS (nt [0,3,4] [51] [(51,1003)] [0,3,4] [1003] [(0,.str v0),(3,.row 1003),(4,vi v4)] [(1003,5,[rc8 (v3++(jL v0 v4))])] ?_))
     cases h
     exact hQ
def iI(n:Nat)(v0:Bs):Nat->(List (UInt8))->Int->Option ((List (UInt8)))
 |0,_,_=>none
 |k+1,v3,v4=>if(decide (v4<(List.length v0:Int)))=true then((jG n v0 v3 v4).bind fun o1 =>
 iI n v0 k o1 (IntKind.wrap .i64 (v4+1)))
 else some v3
theorem vQ(n:Nat)(v0:Bs)(k:Nat):∀(v3:List (UInt8))(v4:Int)(o:(List (UInt8))),iI n v0 k v3 v4=some o->To 57 F0 w0 [(3,.row 1003)] [(1003,5,[rc8 o])] (.exit 0) Q->WL Tryz.prog 57 F0 w0 [(0,.str v0),(3,.row 1003),(4,vi v4)] [(1003,5,[rc8 v3])] (cI (cI (cB (cA (cB (cB (cF Tryz.f52))))))) Q:=by
 induction k with
 |zero=>intro v3 v4 o h;cases h
 |succ k ih =>
  intro v3 v4 o h hQ
  rw[iI] at h
  refine WL.round (Wp.seq (Wp.seq (rg [0,3,4,10] [1003] [(0,.str v0),(3,.row 1003),(4,vi v4),(10,vb (tQ v4 v0))] [(1003,5,[rc8 v3])] (To.ah (cn h (fun h=>?_) (fun h=>?_))))))
  ·refine Wp.skip (To.ah (Wp.seq ?_))
   obtain⟨o1,ho1,h⟩:=ay h
   refine kw [0,3,4] [1003] [(0,.str v0),(3,.row 1003),(4,vi v4)] [(1003,5,[rc8 v3])] (vf n v0 v3 v4 o1 ho1 (To.ah (rg [0,3,4] [1003] [(0,.str v0),(3,.row 1003),(ex7 v4)] [(1003,5,[rc8 o1])] (kt [0,3,4] [1003] [(0,.str v0),(3,.row 1003),(ex7 v4)] [(1003,5,[rc8 o1])] (To.again ?_)))))
   exact ih o1 (IntKind.wrap .i64 (v4+1)) _ h hQ
  ·refine Wp.exit (To.bU (To.bU (kt [3] [1003] [(3,.row 1003)] [(1003,5,[rc8 v3])] ?_)))
   cases h
   exact hQ
def lK(n:Nat)(a0:Bs):Option (Bs) :=
 (iI n a0 n ([34]:List (UInt8)) 0).bind fun o1 =>
 if(decide ((List.length o1+List.length ([34]:List (UInt8)))*(1+1)<=limit))=true then(some (o1++([34]:List (UInt8)))) else none
theorem yF(n:Nat)(a0:Bs)(r:Bs)(h:lK n a0=some r):aT Tryz.prog 52 [.str a0] (.str r):=by
 unfold lK at h
 refine xo Tryz.f52 rfl fun F0 w0 _=>?_
 refine Wp.seq (rg [0] [] [(0,.str a0)] [] (To.ah (Wp.seq (rr [] [(0,rs9 [34])] [] [0,3] [6] [(0,.str a0),(3,.row 6)] [(6,5,[rc8 [34]])] [(dC 1 [.val (.int .u8 34)] 1 (rs9 [34])/\aQ (rs9 [34]))] (aj.cons (fL (iE.cells (ns:=[34]) (.cons rfl .nil)) rfl rfl (dh _)) aj.nil) (To.ah (Wp.seq (Wp.seq (rg [0,3,4] [6] [(0,.str a0),(3,.row 6),(4,vi 0)] [(6,5,[rc8 [34]])] (To.ah (Wp.block ?_))))))))))
 obtain⟨o1,ho1,h⟩:=ay h
 refine nw [0,3,4] [6] [(6,1003)] [0,3,4] [1003] [(0,.str a0),(3,.row 1003),(4,vi 0)] [(1003,5,[rc8 [34]])] (Wp.fP (vQ n a0 n ([34]:List (UInt8)) 0 o1 ho1 (To.dW (To.ah (Wp.seq ?_)))))
 obtain⟨hc2,h⟩:=aF h
 refine rr [] [(1,rs9 [34]),(2,rs9 (o1++([34]:List (UInt8))))] [] [3] [54] [(3,.row 54)] [(54,5,[rc8 (o1++([34]:List (UInt8)))])] [(dC 1 [.val (.int .u8 34)] 1 (rs9 [34])/\aQ (rs9 [34])),_,(eQ 0 e8 o1 (List.flatMap e8 ([34]:List (UInt8))) (List.length ([34]:List (UInt8))) (rs9 (o1++([34]:List (UInt8))))/\aQ (rs9 (o1++([34]:List (UInt8)))))] (aj.cons (fL (iE.cells (ns:=[34]) (.cons rfl .nil)) rfl rfl (dh _)) (aj.cons hc2 (aj.cons (eG rfl rfl (dh _)) aj.nil))) (To.ah (Wp.seq (rr [] [(1,.str (o1++([34]:List (UInt8))))] [] [2] [] [(2,.str (o1++([34]:List (UInt8))))] [] [(true=true->wB (List.flatMap e8 (o1++([34]:List (UInt8)))) (.str (o1++([34]:List (UInt8)))))] (aj.cons (fun _=>E7 (BJ _)) aj.nil) (To.ah (Wp.ret ?_)))))
 cases h
 exact To.done hΓ (by kernel_rfl)
def jI(n:Nat)(v0:Bs)(v3:Bool)(v4:Int):Option (Bool) :=
 if(decide (0<=v4/\v4<(List.length v0:Int)))=true then(if((!(((((v0)[Int.toNat v4]?.getD 0).toNat:Int)==34)==false)||decide (0<=v4/\v4<(List.length v0:Int))))=true then(bM ((bif ((((v0)[Int.toNat v4]?.getD 0).toNat:Int)==34) then true else((((v0)[Int.toNat v4]?.getD 0).toNat:Int)==39)):Bool) fun x2 =>
 if x2=true then some false
 else some v3) else none) else none
theorem vD(n:Nat)(v0:Bs)(v3:Bool)(v4:Int)(o:Bool)(h:jI n v0 v3 v4=some o)(hQ:To 27 F0 w0 [(0,.str v0),(3,vb o),(4,vi v4)] [] .normal Q):Wp Tryz.prog 27 F0 w0 [(0,.str v0),(3,vb v3),(4,vi v4)] [] (cA (cB (cI (cI (cB (cA (cB (cB (cF Tryz.f22))))))))) Q:=by
 unfold jI at h
 refine Wp.block (Wp.seq ?_)
 obtain⟨hc3,h⟩:=aF h
 obtain⟨hc4,h⟩:=aF h
 obtain⟨x2,hx2,h⟩:=aW h
 refine r0 [0,3,4,22] [] [(0,.str v0),(3,vb v3),(4,vi v4),(22,vb (bif ((ex9 v0 v4)==34) then true else((ex9 v0 v4)==39)))] [] (aj.cons hc3 (aj.cons hc4 aj.nil)) (To.eq (K':=[(0,.str v0),(3,vb v3),(4,vi v4),(22,vb x2)]) (L':=[]) (by cases hx2;rfl) (by cases hx2;rfl) (To.ah (cn h (fun h=>?_) (fun h=>?_))))
 ·refine rg [0,3,4] [] [(0,.str v0),(3,vb false),(4,vi v4)] [] (To.aS ?_)
  cases h
  exact hQ
 ·refine Wp.skip (To.aS (kt [0,3,4] [] [(0,.str v0),(3,vb v3),(4,vi v4)] [] ?_))
  cases h
  exact hQ
def gp(n:Nat)(v0:Bs):Nat->Bool->Int->Option (Bool)
 |0,_,_=>none
 |k+1,v3,v4=>if(decide (v4<(List.length v0:Int)))=true then((jI n v0 v3 v4).bind fun o2 =>
 gp n v0 k o2 (IntKind.wrap .i64 (v4+1)))
 else some v3
theorem vH(n:Nat)(v0:Bs)(k:Nat):∀(v3:Bool)(v4:Int)(o:Bool),gp n v0 k v3 v4=some o->To 27 F0 w0 [(0,.str v0),(3,vb o)] [] (.exit 0) Q->WL Tryz.prog 27 F0 w0 [(0,.str v0),(3,vb v3),(4,vi v4)] [] (cI (cI (cB (cA (cB (cB (cF Tryz.f22))))))) Q:=by
 induction k with
 |zero=>intro v3 v4 o h;cases h
 |succ k ih =>
  intro v3 v4 o h hQ
  rw[gp] at h
  refine WL.round (Wp.seq (Wp.seq (rg [0,3,4,10] [] [(0,.str v0),(3,vb v3),(4,vi v4),(10,vb (tQ v4 v0))] [] (To.ah (cn h (fun h=>?_) (fun h=>?_))))))
  ·refine Wp.skip (To.ah (Wp.seq ?_))
   obtain⟨o2,ho2,h⟩:=ay h
   refine kw [0,3,4] [] [(0,.str v0),(3,vb v3),(4,vi v4)] [] (vD n v0 v3 v4 o2 ho2 (To.ah (rg [0,3,4] [] [(0,.str v0),(3,vb o2),(ex7 v4)] [] (kt [0,3,4] [] [(0,.str v0),(3,vb o2),(ex7 v4)] [] (To.again ?_)))))
   exact ih o2 (IntKind.wrap .i64 (v4+1)) _ h hQ
  ·refine Wp.exit (To.bU (To.bU (kt [0,3] [] [(0,.str v0),(3,vb v3)] [] ?_)))
   cases h
   exact hQ
def jb(n:Nat)(a0:Bs):Option (Bs) :=
 (mQ n a0).bind fun r1 =>
 (gp n a0 n r1 0).bind fun o2 =>
 if o2=true then some a0
 else((lK n a0).bind fun r3 =>
 some r3)
theorem oh(n:Nat)(a0:Bs)(r:Bs)(h:jb n a0=some r):aT Tryz.prog 22 [.str a0] (.str r):=by
 unfold jb at h
 refine xo Tryz.f22 rfl fun F0 w0 _=>?_
 refine Wp.seq (rg [0] [] [(0,.str a0)] [] (To.ah (Wp.seq ?_)))
 obtain⟨r1,hr1,h⟩:=ay h
 refine rc [] 1 [0,3] [] [(0,.str a0),(3,vb r1)] [] (zw n a0 _ hr1) (To.ah (Wp.seq (Wp.seq (rg [0,3,4] [] [(0,.str a0),(3,vb r1),(4,vi 0)] [] (To.ah (Wp.block ?_))))))
 obtain⟨o2,ho2,h⟩:=ay h
 refine kw [0,3,4] [] [(0,.str a0),(3,vb r1),(4,vi 0)] [] (Wp.fP (vH n a0 n r1 0 o2 ho2 (To.dW (To.ah (Wp.seq (Wp.seq (rg [0,23] [] [(0,.str a0),(23,vb o2)] [] (To.ah (cn h (fun h=>?_) (fun h=>?_))))))))))
 ·refine Wp.seq (rg [2] [] [(2,.str a0)] [] (To.ah (Wp.ret (To.aL ?_))))
  cases h
  exact To.done hΓ (by kernel_rfl)
 ·refine Wp.skip (To.ah (Wp.seq ?_))
  obtain⟨r3,hr3,h⟩:=ay h
  refine rc [] 1 [2] [] [(2,.str r3)] [] (yF n a0 _ hr3) (To.ah (Wp.ret ?_))
  cases h
  exact To.done hΓ (by kernel_rfl)
def jh(n:Nat)(a0:af):Option (Bs) :=
 if(a0.aD==0)=true then(some lg)
 else(if(a0.aD==1)=true then((jb n a0.aI).bind fun r1 =>
 some r1)
 else(if(a0.aD==2)=true then(some [91,93])
 else(some [123,125])))
theorem nK(n:Nat)(a0:af)(r:Bs)(h:jh n a0=some r):aT Tryz.prog 48 [.agg (qc6 a0)] (.str r):=by
 unfold jh at h
 refine xo Tryz.f48 rfl fun F0 w0 _=>?_
 refine Wp.seq (rg [1] [1] [(1,.own 1 0)] [(1,26,qc6 a0)] (To.ah (Wp.seq (Wp.seq (rg [1,5] [1] [(1,.own 1 0),(5,vb (a0.aD==0))] [(1,26,qc6 a0)] (To.ah (cn h (fun h=>?_) (fun h=>?_))))))))
 ·refine Wp.seq (rg [2] [] [(2,.str lg)] [] (To.ah (Wp.ret (To.aL ?_))))
  cases h
  exact To.done hΓ (by kernel_rfl)
 ·refine Wp.skip (To.ah (Wp.seq (Wp.seq (rg [1,8] [1] [(1,.own 1 0),(8,vb (a0.aD==1))] [(1,26,qc6 a0)] (To.ah (cn h (fun h=>?_) (fun h=>?_)))))))
  ·refine Wp.seq ?_
   obtain⟨r1,hr1,h⟩:=ay h
   refine rc [] 2 [2] [] [(2,.str r1)] [] (oh n a0.aI _ hr1) (To.ah (Wp.ret (To.aL ?_)))
   cases h
   exact To.done hΓ (by kernel_rfl)
  ·refine Wp.skip (To.ah (Wp.seq (Wp.seq (rg [14] [] [(14,vb (a0.aD==2))] [] (To.ah (cn h (fun h=>?_) (fun h=>?_)))))))
   ·refine Wp.seq (rg [2] [] [(2,.str [91,93])] [] (To.ah (Wp.ret (To.aL ?_))))
    cases h
    exact To.done hΓ (by kernel_rfl)
   ·refine Wp.skip (To.ah (Wp.seq (rg [2] [] [(2,.str [123,125])] [] (To.ah (Wp.ret ?_)))))
    cases h
    exact To.done hΓ (by kernel_rfl)
def kH(R_ref11_rows:af->Bs->Bs->Option (Bs))(n:Nat)(v1:Bs)(v2:Bs)(v7:Bs)(v8:Int)(v24:Bool)(b3:af)(b9:af):Option (Bs) :=
 if v24=true then(if(decide (((List.length v7+List.length v1:Nat):Int)<=9223372036854775807))=true then(some (v7++v1)) else none)
 else(if(decide (((List.length v7+List.length v2:Nat):Int)<=9223372036854775807))=true then(some (v7++v2)) else none)
abbrev zx(R_ref11_rows:af->Bs->Bs->Option (Bs)):Prop:=∀(a0:af)(a1:Bs)(a2:Bs)(r:Bs),R_ref11_rows a0 a1 a2=some r->aT Tryz.prog 49 [.agg [vi a0.aD,.str a0.aI,ls a0.av,tn4 a0.ai],.str a1,.str a2] (.str r)
theorem xE(R_ref11_rows:af->Bs->Bs->Option (Bs))(hR_ref11_rows:zx R_ref11_rows)(n:Nat)(v1:Bs)(v2:Bs)(v7:Bs)(v8:Int)(v24:Bool)(b3:af)(b9:af)(o:Bs)(h:kH R_ref11_rows n v1 v2 v7 v8 v24 b3 b9=some o)(hQ:To 78 F0 w0 [(1,.str v1),(2,.str v2),(3,.own 3 0),(7,.str o),(8,vi v8),(9,.own 9 0)] [(3,26,qc6 b3),(9,26,qc6 b9)] .normal Q):Wp Tryz.prog 78 F0 w0 [(1,.str v1),(2,.str v2),(3,.own 3 0),(7,.str v7),(8,vi v8),(9,.own 9 0),(24,vb v24)] [(3,26,qc6 b3),(9,26,qc6 b9)] (cB (cA (cB (cI (cA (cB (cI (cI (cB (cA (cB (cB (cF Tryz.f49))))))))))))) Q:=by
 unfold kH at h
 refine cn h (fun h=>?_) (fun h=>?_)
 ·obtain⟨hc1,h⟩:=aF h
  refine r0 [1,2,3,7,8,9] [3,9] [(1,.str v1),(2,.str v2),(3,.own 3 0),(7,.str (v7++v1)),(8,vi v8),(9,.own 9 0)] [(3,26,qc6 b3),(9,26,qc6 b9)] (aj.cons hc1 aj.nil) (kt [1,2,3,7,8,9] [3,9] [(1,.str v1),(2,.str v2),(3,.own 3 0),(7,.str (v7++v1)),(8,vi v8),(9,.own 9 0)] [(3,26,qc6 b3),(9,26,qc6 b9)] ?_)
  cases h
  exact hQ
 ·obtain⟨hc2,h⟩:=aF h
  refine r0 [1,2,3,7,8,9] [3,9] [(1,.str v1),(2,.str v2),(3,.own 3 0),(7,.str (v7++v2)),(8,vi v8),(9,.own 9 0)] [(3,26,qc6 b3),(9,26,qc6 b9)] (aj.cons hc2 aj.nil) (kt [1,2,3,7,8,9] [3,9] [(1,.str v1),(2,.str v2),(3,.own 3 0),(7,.str (v7++v2)),(8,vi v8),(9,.own 9 0)] [(3,26,qc6 b3),(9,26,qc6 b9)] ?_)
  cases h
  exact hQ
def mX(R_ref11_rows:af->Bs->Bs->Option (Bs))(n:Nat)(v1:Bs)(v2:Bs)(v7:Bs)(v8:Int)(v35:Bool)(b3:af)(b9:af):Option (Bs) :=
 if v35=true then(if(decide (((List.length v7+List.length ([45,32]:Bs):Nat):Int)<=9223372036854775807))=true then((jh n b9).bind fun r3 =>
 if(decide (((List.length (v7++[45,32])+List.length r3:Nat):Int)<=9223372036854775807))=true then(if(decide (((List.length ((v7++[45,32])++r3)+List.length ([10]:Bs):Nat):Int)<=9223372036854775807))=true then(some (((v7++[45,32])++r3)++[10])) else none) else none) else none)
 else(if(decide (((List.length v2+List.length ([32,32]:Bs):Nat):Int)<=9223372036854775807))=true then((R_ref11_rows b9 [45,32] (v2++[32,32])).bind fun r7 =>
 if(decide (((List.length v7+List.length r7:Nat):Int)<=9223372036854775807))=true then(some (v7++r7)) else none) else none)
abbrev M3(x0:Bs):=(decide (((List.length x0+List.length ([32,32]:Bs):Nat):Int)<=9223372036854775807))
theorem xx(R_ref11_rows:af->Bs->Bs->Option (Bs))(hR_ref11_rows:zx R_ref11_rows)(n:Nat)(v1:Bs)(v2:Bs)(v7:Bs)(v8:Int)(v35:Bool)(b3:af)(b9:af)(o:Bs)(h:mX R_ref11_rows n v1 v2 v7 v8 v35 b3 b9=some o)(hQ:To 78 F0 w0 [(1,.str v1),(2,.str v2),(3,.own 3 0),(7,.str o),(8,vi v8)] [(3,26,qc6 b3)] .normal Q):Wp Tryz.prog 78 F0 w0 [(1,.str v1),(2,.str v2),(3,.own 3 0),(7,.str v7),(8,vi v8),(9,.own 9 0),(35,vb v35)] [(3,26,qc6 b3),(9,26,qc6 b9)] (cB (cA (cT (cB (cA (cB (cB (cI (cA (cB (cI (cI (cB (cA (cB (cB (cF Tryz.f49))))))))))))))))) Q:=by
 unfold mX at h
 refine cn h (fun h=>?_) (fun h=>?_)
 ·obtain⟨hc4,h⟩:=aF h
  obtain⟨r3,hr3,h⟩:=ay h
  obtain⟨hc5,h⟩:=aF h
  obtain⟨hc6,h⟩:=aF h
  refine rr [] [(3,.str r3)] [] [1,2,3,7,8] [3] [(1,.str v1),(2,.str v2),(3,.own 3 0),(7,.str (((v7++[45,32])++r3)++[10])),(8,vi v8)] [(3,26,qc6 b3)] [_,_,_,_] (aj.cons hc4 (aj.cons (c1 (nK n b9 _ hr3)) (aj.cons hc5 (aj.cons hc6 aj.nil)))) (kt [1,2,3,7,8] [3] [(1,.str v1),(2,.str v2),(3,.own 3 0),(7,.str (((v7++[45,32])++r3)++[10])),(8,vi v8)] [(3,26,qc6 b3)] ?_)
  cases h
  exact hQ
 ·obtain⟨hc8,h⟩:=aF h
  obtain⟨r7,hr7,h⟩:=ay h
  obtain⟨hc9,h⟩:=aF h
  refine rr [] [(4,.str r7)] [] [1,2,3,7,8] [3] [(1,.str v1),(2,.str v2),(3,.own 3 0),(7,.str (v7++r7)),(8,vi v8)] [(3,26,qc6 b3)] [_,(true=true->CX Tryz.prog 49 [.agg (qc6 b9),.str [45,32],.str (v2++[32,32])] (.str r7)),_] (aj.cons hc8 (aj.cons (fun _=>cx (hR_ref11_rows b9 [45,32] (v2++[32,32]) _ hr7)) (aj.cons hc9 aj.nil))) (kt [1,2,3,7,8] [3] [(1,.str v1),(2,.str v2),(3,.own 3 0),(7,.str (v7++r7)),(8,vi v8)] [(3,26,qc6 b3)] ?_)
  cases h
  exact hQ
def kJ(R_ref11_rows:af->Bs->Bs->Option (Bs))(n:Nat)(v1:Bs)(v2:Bs)(v7:Bs)(v8:Int)(v10:Bs)(v55:Bool)(b3:af)(b9:af):Option (Bs) :=
 if v55=true then(some [34,60,60,34])
 else some v10
theorem yj(R_ref11_rows:af->Bs->Bs->Option (Bs))(hR_ref11_rows:zx R_ref11_rows)(n:Nat)(v1:Bs)(v2:Bs)(v7:Bs)(v8:Int)(v10:Bs)(v55:Bool)(b3:af)(b9:af)(o:Bs)(h:kJ R_ref11_rows n v1 v2 v7 v8 v10 v55 b3 b9=some o)(hQ:To 78 F0 w0 [(1,.str v1),(2,.str v2),(3,.own 3 0),(7,.str v7),(8,vi v8),(9,.own 9 0),(10,.str o)] [(3,26,qc6 b3),(9,26,qc6 b9)] .normal Q):Wp Tryz.prog 78 F0 w0 [(1,.str v1),(2,.str v2),(3,.own 3 0),(7,.str v7),(8,vi v8),(9,.own 9 0),(10,.str v10),(55,vb v55)] [(3,26,qc6 b3),(9,26,qc6 b9)] (cB (cA (cB (cB (cB (cB (cI (cA (cB (cI (cI (cB (cA (cB (cB (cF Tryz.f49)))))))))))))))) Q:=by
 unfold kJ at h
 refine cn h (fun h=>?_) (fun h=>?_)
 ·refine rg [1,2,3,7,8,9,10] [3,9] [(1,.str v1),(2,.str v2),(3,.own 3 0),(7,.str v7),(8,vi v8),(9,.own 9 0),(10,.str [34,60,60,34])] [(3,26,qc6 b3),(9,26,qc6 b9)] (kt [1,2,3,7,8,9,10] [3,9] [(1,.str v1),(2,.str v2),(3,.own 3 0),(7,.str v7),(8,vi v8),(9,.own 9 0),(10,.str [34,60,60,34])] [(3,26,qc6 b3),(9,26,qc6 b9)] ?_)
  cases h
  exact hQ
 ·refine Wp.skip (kt [1,2,3,7,8,9,10] [3,9] [(1,.str v1),(2,.str v2),(3,.own 3 0),(7,.str v7),(8,vi v8),(9,.own 9 0),(10,.str v10)] [(3,26,qc6 b3),(9,26,qc6 b9)] ?_)
  cases h
  exact hQ
def kM(R_ref11_rows:af->Bs->Bs->Option (Bs))(n:Nat)(v1:Bs)(v2:Bs)(v7:Bs)(v8:Int)(b3:af):Option (Bs) :=
 if(decide (0<=v8/\v8<(List.length b3.ai:Int)))=true then((kH R_ref11_rows n v1 v2 v7 v8 (v8==0) b3 ((b3.ai)[Int.toNat v8]?.getD (af.mk 0 [] [] []))).bind fun o1 =>
 if(b3.aD==2)=true then(bM (iU ((b3.ai)[Int.toNat v8]?.getD (af.mk 0 [] [] []))) fun r2 =>
 (mX R_ref11_rows n v1 v2 o1 v8 r2 b3 ((b3.ai)[Int.toNat v8]?.getD (af.mk 0 [] [] []))).bind fun o3 =>
 some o3)
 else(if(decide (0<=v8/\v8<(List.length b3.av:Int)))=true then((jb n ((b3.av)[Int.toNat v8]?.getD [])).bind fun r4 =>
 (kJ R_ref11_rows n v1 v2 o1 v8 r4 (r4==[60,60]) b3 ((b3.ai)[Int.toNat v8]?.getD (af.mk 0 [] [] []))).bind fun o5 =>
 bM (iU ((b3.ai)[Int.toNat v8]?.getD (af.mk 0 [] [] []))) fun r6 =>
 if r6=true then(if(decide (((List.length o1+List.length o5:Nat):Int)<=9223372036854775807))=true then(if(decide (((List.length (o1++o5)+List.length ([58,32]:Bs):Nat):Int)<=9223372036854775807))=true then((jh n ((b3.ai)[Int.toNat v8]?.getD (af.mk 0 [] [] []))).bind fun r7 =>
 if(decide (((List.length ((o1++o5)++[58,32])+List.length r7:Nat):Int)<=9223372036854775807))=true then(if(decide (((List.length (((o1++o5)++[58,32])++r7)+List.length ([10]:Bs):Nat):Int)<=9223372036854775807))=true then(some ((((o1++o5)++[58,32])++r7)++[10])) else none) else none) else none) else none)
 else(if(decide (((List.length o1+List.length o5:Nat):Int)<=9223372036854775807))=true then(if(decide (((List.length (o1++o5)+List.length ([58,10]:Bs):Nat):Int)<=9223372036854775807))=true then(if(decide (((List.length v2+List.length ([32,32]:Bs):Nat):Int)<=9223372036854775807))=true then((R_ref11_rows ((b3.ai)[Int.toNat v8]?.getD (af.mk 0 [] [] [])) (v2++[32,32]) (v2++[32,32])).bind fun r12 =>
 if(decide (((List.length ((o1++o5)++[58,10])+List.length r12:Nat):Int)<=9223372036854775807))=true then(some (((o1++o5)++[58,10])++r12)) else none) else none) else none) else none)) else none)) else none
abbrev sM(x0:af)(x1:Int):Nat×Nat×List D:=(9,26,[vi (((x0.ai)[Int.toNat x1]?.getD zx3).aD),.str (((x0.ai)[Int.toNat x1]?.getD zx3).aI),ls (((x0.ai)[Int.toNat x1]?.getD zx3).av),tn4 (((x0.ai)[Int.toNat x1]?.getD zx3).ai)])
abbrev rJ(x0:af)(x1:Int):=((x0.ai)[Int.toNat x1]?.getD zx3)
theorem xQ(R_ref11_rows:af->Bs->Bs->Option (Bs))(hR_ref11_rows:zx R_ref11_rows)(n:Nat)(v1:Bs)(v2:Bs)(v7:Bs)(v8:Int)(b3:af)(o:Bs)(h:kM R_ref11_rows n v1 v2 v7 v8 b3=some o)(hQ:To 78 F0 w0 [(1,.str v1),(2,.str v2),(3,.own 3 0),(7,.str o),(8,vi v8)] [(3,26,qc6 b3)] .normal Q):Wp Tryz.prog 78 F0 w0 [(1,.str v1),(2,.str v2),(3,.own 3 0),(7,.str v7),(8,vi v8)] [(3,26,qc6 b3)] (cA (cB (cI (cI (cB (cA (cB (cB (cF Tryz.f49))))))))) Q:=by
 unfold kM at h
 refine Wp.block (Wp.seq ?_)
 obtain⟨hc18,h⟩:=aF h
 refine r0 [1,2,3,7,8,9] [3,9] [(1,.str v1),(2,.str v2),(3,.own 3 0),(7,.str v7),(8,vi v8),(9,.own 9 0)] [(3,26,qc6 b3),(sM b3 v8)] (aj.cons hc18 aj.nil) (To.ah (Wp.seq (Wp.seq (rg [1,2,3,7,8,9,24] [3,9] [(1,.str v1),(2,.str v2),(3,.own 3 0),(7,.str v7),(8,vi v8),(9,.own 9 0),(24,vb (v8==0))] [(3,26,qc6 b3),(sM b3 v8)] (To.ah ?_)))))
 obtain⟨o1,ho1,h⟩:=ay h
 refine kw [1,2,3,7,8,9,24] [3,9] [(1,.str v1),(2,.str v2),(3,.own 3 0),(7,.str v7),(8,vi v8),(9,.own 9 0),(24,vb (v8==0))] [(3,26,qc6 b3),(sM b3 v8)] (xE R_ref11_rows hR_ref11_rows n v1 v2 v7 v8 (v8==0) b3 (rJ b3 v8) o1 ho1 (To.ah (Wp.seq (Wp.seq (rg [1,2,3,7,8,9,33] [3,9] [(1,.str v1),(2,.str v2),(3,.own 3 0),(7,.str o1),(8,vi v8),(9,.own 9 0),(33,vb (b3.aD==2))] [(3,26,qc6 b3),(sM b3 v8)] (To.ah (cn h (fun h=>?_) (fun h=>?_))))))))
 ·refine Wp.seq (Wp.seq ?_)
  obtain⟨r2,hr2,h⟩:=aW h
  refine rc [] 1 [1,2,3,7,8,9,35] [3,9] [(1,.str v1),(2,.str v2),(3,.own 3 0),(7,.str o1),(8,vi v8),(9,.own 9 0),(35,vb r2)] [(3,26,qc6 b3),(sM b3 v8)] (oV (rJ b3 v8) _ hr2) (To.ah ?_)
  obtain⟨o3,ho3,h⟩:=ay h
  refine kw [1,2,3,7,8,9,35] [3,9] [(1,.str v1),(2,.str v2),(3,.own 3 0),(7,.str o1),(8,vi v8),(9,.own 9 0),(35,vb r2)] [(3,26,qc6 b3),(sM b3 v8)] (xx R_ref11_rows hR_ref11_rows n v1 v2 o1 v8 r2 b3 (rJ b3 v8) o3 ho3 (To.ah (Wp.exit (To.bU (To.dW (kt [1,2,3,7,8] [3] [(1,.str v1),(2,.str v2),(3,.own 3 0),(7,.str o3),(8,vi v8)] [(3,26,qc6 b3)] ?_))))))
  cases h
  exact hQ
 ·refine Wp.skip (To.ah (Wp.seq ?_))
  obtain⟨hc17,h⟩:=aF h
  obtain⟨r4,hr4,h⟩:=ay h
  refine rr [] [(5,.str r4)] [] [1,2,3,7,8,9,10] [3,9] [(1,.str v1),(2,.str v2),(3,.own 3 0),(7,.str o1),(8,vi v8),(9,.own 9 0),(10,.str r4)] [(3,26,qc6 b3),(sM b3 v8)] [_,_] (aj.cons hc17 (aj.cons (c1 (oh n ((b3.av)[Int.toNat v8]?.getD []) _ hr4)) aj.nil)) (To.ah (Wp.seq (Wp.seq (rg [1,2,3,7,8,9,10,55] [3,9] [(1,.str v1),(2,.str v2),(3,.own 3 0),(7,.str o1),(8,vi v8),(9,.own 9 0),(10,.str r4),(55,vb (r4==[60,60]))] [(3,26,qc6 b3),(sM b3 v8)] (To.ah ?_)))))
  obtain⟨o5,ho5,h⟩:=ay h
  refine kw [1,2,3,7,8,9,10,55] [3,9] [(1,.str v1),(2,.str v2),(3,.own 3 0),(7,.str o1),(8,vi v8),(9,.own 9 0),(10,.str r4),(55,vb (r4==[60,60]))] [(3,26,qc6 b3),(sM b3 v8)] (yj R_ref11_rows hR_ref11_rows n v1 v2 o1 v8 r4 (r4==[60,60]) b3 (rJ b3 v8) o5 ho5 (To.ah (Wp.seq ?_)))
  obtain⟨r6,hr6,h⟩:=aW h
  refine rc [] 1 [1,2,3,7,8,9,10,57] [3,9] [(1,.str v1),(2,.str v2),(3,.own 3 0),(7,.str o1),(8,vi v8),(9,.own 9 0),(10,.str o5),(57,vb r6)] [(3,26,qc6 b3),(sM b3 v8)] (oV (rJ b3 v8) _ hr6) (To.ah (cn h (fun h=>?_) (fun h=>?_)))
  ·obtain⟨hc8,h⟩:=aF h
   obtain⟨hc9,h⟩:=aF h
   obtain⟨r7,hr7,h⟩:=ay h
   obtain⟨hc10,h⟩:=aF h
   obtain⟨hc11,h⟩:=aF h
   refine rr [] [(5,.str r7)] [] [1,2,3,7,8] [3] [(1,.str v1),(2,.str v2),(3,.own 3 0),(7,.str ((((o1++o5)++[58,32])++r7)++[10])),(8,vi v8)] [(3,26,qc6 b3)] [_,_,_,_,_] (aj.cons hc8 (aj.cons hc9 (aj.cons (c1 (nK n (rJ b3 v8) _ hr7)) (aj.cons hc10 (aj.cons hc11 aj.nil))))) (To.aS ?_)
   cases h
   exact hQ
  ·obtain⟨hc13,h⟩:=aF h
   obtain⟨hc14,h⟩:=aF h
   obtain⟨hc15,h⟩:=aF h
   obtain⟨r12,hr12,h⟩:=ay h
   obtain⟨hc16,h⟩:=aF h
   refine rr [] [(9,.str r12)] [] [1,2,3,7,8] [3] [(1,.str v1),(2,.str v2),(3,.own 3 0),(7,.str (((o1++o5)++[58,10])++r12)),(8,vi v8)] [(3,26,qc6 b3)] [_,_,_,_,(true=true->CX Tryz.prog 49 [.agg [vi ((rJ b3 v8).aD),.str ((rJ b3 v8).aI),ls ((rJ b3 v8).av),tn4 ((rJ b3 v8).ai)],.str (v2++[32,32]),.str (v2++[32,32])] (.str r12)),_] (aj.cons hc13 (aj.cons hc14 (aj.cons hc15 (aj.cons hc15 (aj.cons (fun _=>cx (hR_ref11_rows (rJ b3 v8) (v2++[32,32]) (v2++[32,32]) _ hr12)) (aj.cons hc16 aj.nil)))))) (To.aS ?_)
   cases h
   exact hQ
def iO(R_ref11_rows:af->Bs->Bs->Option (Bs))(n:Nat)(v1:Bs)(v2:Bs)(b3:af):Nat->Bs->Int->Option (Bs)
 |0,_,_=>none
 |k+1,v7,v8=>if(decide (v8<(List.length b3.ai:Int)))=true then((kM R_ref11_rows n v1 v2 v7 v8 b3).bind fun o1 =>
 iO R_ref11_rows n v1 v2 b3 k o1 (IntKind.wrap .i64 (v8+1)))
 else some v7
theorem xF(R_ref11_rows:af->Bs->Bs->Option (Bs))(hR_ref11_rows:zx R_ref11_rows)(n:Nat)(v1:Bs)(v2:Bs)(b3:af)(k:Nat):∀(v7:Bs)(v8:Int)(o:Bs),iO R_ref11_rows n v1 v2 b3 k v7 v8=some o->To 78 F0 w0 [(7,.str o)] [] (.exit 0) Q->WL Tryz.prog 78 F0 w0 [(1,.str v1),(2,.str v2),(3,.own 3 0),(7,.str v7),(8,vi v8)] [(3,26,qc6 b3)] (cI (cI (cB (cA (cB (cB (cF Tryz.f49))))))) Q:=by
 induction k with
 |zero=>intro v7 v8 o h;cases h
 |succ k ih =>
  intro v7 v8 o h hQ
  rw[iO] at h
  refine WL.round (Wp.seq (Wp.seq (rg [1,2,3,7,8,15] [3] [(1,.str v1),(2,.str v2),(3,.own 3 0),(7,.str v7),(8,vi v8),(15,vb (ex4 v8 b3))] [(3,26,qc6 b3)] (To.ah (cn h (fun h=>?_) (fun h=>?_))))))
  ·refine Wp.skip (To.ah (Wp.seq ?_))
   obtain⟨o1,ho1,h⟩:=ay h
   refine kw [1,2,3,7,8] [3] [(1,.str v1),(2,.str v2),(3,.own 3 0),(7,.str v7),(8,vi v8)] [(3,26,qc6 b3)] (xQ R_ref11_rows hR_ref11_rows n v1 v2 v7 v8 b3 o1 ho1 (To.ah (rg [1,2,3,7,8] [3] [(1,.str v1),(2,.str v2),(3,.own 3 0),(7,.str o1),(8,vi (IntKind.wrap .i64 (v8+1)))] [(3,26,qc6 b3)] (kt [1,2,3,7,8] [3] [(1,.str v1),(2,.str v2),(3,.own 3 0),(7,.str o1),(8,vi (IntKind.wrap .i64 (v8+1)))] [(3,26,qc6 b3)] (To.again ?_)))))
   exact ih o1 (IntKind.wrap .i64 (v8+1)) _ h hQ
  ·refine Wp.exit (To.bU (To.bU (kt [7] [] [(7,.str v7)] [] ?_)))
   cases h
   exact hQ
def lQ(R_ref11_rows:af->Bs->Bs->Option (Bs))(n:Nat)(a0:af)(a1:Bs)(a2:Bs):Option (Bs) :=
 (iO R_ref11_rows n a1 a2 a0 n [] 0).bind fun o1 =>
 some o1
theorem yz(R_ref11_rows:af->Bs->Bs->Option (Bs))(hR_ref11_rows:zx R_ref11_rows)(n:Nat)(a0:af)(a1:Bs)(a2:Bs)(r:Bs)(h:lQ R_ref11_rows n a0 a1 a2=some r):aT Tryz.prog 49 [.agg (qc6 a0),.str a1,.str a2] (.str r):=by
 unfold lQ at h
 refine xo Tryz.f49 rfl fun F0 w0 _=>?_
 refine Wp.seq (rg [1,2,3] [3] [(1,.str a1),(2,.str a2),(3,.own 3 0)] [(3,26,qc6 a0)] (To.ah (Wp.seq (rg [1,2,3,7] [3] [(1,.str a1),(2,.str a2),(3,.own 3 0),(7,.str [])] [(3,26,qc6 a0)] (To.ah (Wp.seq (Wp.seq (rg [1,2,3,7,8] [3] [(1,.str a1),(2,.str a2),(3,.own 3 0),(7,.str []),(8,vi 0)] [(3,26,qc6 a0)] (To.ah (Wp.block ?_))))))))))
 obtain⟨o1,ho1,h⟩:=ay h
 refine kw [1,2,3,7,8] [3] [(1,.str a1),(2,.str a2),(3,.own 3 0),(7,.str []),(8,vi 0)] [(3,26,qc6 a0)] (Wp.fP (xF R_ref11_rows hR_ref11_rows n a1 a2 a0 n [] 0 o1 ho1 (To.dW (To.ah (Wp.seq (rg [6] [] [(6,.str o1)] [] (To.ah (Wp.ret ?_))))))))
 cases h
 exact To.done hΓ (by kernel_rfl)
def jF:Nat->af->Bs->Bs->Option (Bs)
 |0=>fun _ _ _=>none
 |n+1=>lQ (jF n) n
theorem Bv(n:Nat):∀(a0:af)(a1:Bs)(a2:Bs)(r:Bs),jF n a0 a1 a2=some r->aT Tryz.prog 49 [.agg (qc6 a0),.str a1,.str a2] (.str r):=by
 induction n with
 |zero=>intro a0 a1 a2 r h;cases h
 |succ n ih=>exact fun a0 a1 a2 r h=>yz (jF n) ih n a0 a1 a2 r h
def mM(n:Nat)(a0:af):Option (Bs) :=
 if(a0.aD==0)=true then(some [])
 else(if(bif (a0.aD==1) then(bif (a0.aI==sU) then true else(a0.aI==sQ)) else false)=true then(if(decide (((List.length ([34]:Bs)+List.length a0.aI:Nat):Int)<=9223372036854775807))=true then(if(decide (((List.length (([34]:Bs)++a0.aI)+List.length ([34,10]:Bs):Nat):Int)<=9223372036854775807))=true then(some ((([34]:Bs)++a0.aI)++[34,10])) else none) else none)
 else(if(iU a0)=true then((jh n a0).bind fun r3 =>
 if(decide (((List.length r3+List.length ([10]:Bs):Nat):Int)<=9223372036854775807))=true then(some (r3++[10])) else none)
 else((jF n a0 [] []).bind fun r5 =>
 some r5)))
theorem zH(n:Nat)(a0:af)(r:Bs)(h:mM n a0=some r):aT Tryz.prog 19 [.agg (qc6 a0)] (.str r):=by
 unfold mM at h
 refine xo Tryz.f19 rfl fun F0 w0 _=>?_
 refine Wp.seq (rg [1] [1] [(1,.own 1 0)] [(1,26,qc6 a0)] (To.ah (Wp.seq (Wp.seq (rg [1,5] [1] [(1,.own 1 0),(5,vb (a0.aD==0))] [(1,26,qc6 a0)] (To.ah (cn h (fun h=>?_) (fun h=>?_))))))))
 ·refine Wp.seq (rg [2] [] [(2,.str [])] [] (To.ah (Wp.ret (To.aL ?_))))
  cases h
  exact To.done hΓ (by kernel_rfl)
 ·refine Wp.skip (To.ah (Wp.seq (Wp.seq (rg [1,18] [1] [(1,.own 1 0),(18,vb (LN a0))] [(1,26,qc6 a0)] (To.ah (cn h (fun h=>?_) (fun h=>?_)))))))
  ·refine Wp.seq ?_
   obtain⟨hc1,h⟩:=aF h
   obtain⟨hc2,h⟩:=aF h
   refine r0 [2] [] [(2,.str ((([34]:Bs)++a0.aI)++[34,10]))] [] (aj.cons hc1 (aj.cons hc2 aj.nil)) (To.ah (Wp.ret (To.aL ?_)))
   cases h
   exact To.done hΓ (by kernel_rfl)
  ·refine Wp.skip (To.ah (Wp.seq (Wp.seq (rc [] 1 [1,24] [1] [(1,.own 1 0),(24,vb (iU a0))] [(1,26,qc6 a0)] (oV a0 _ rfl) (To.ah (cn h (fun h=>?_) (fun h=>?_)))))))
   ·refine Wp.seq ?_
    obtain⟨r3,hr3,h⟩:=ay h
    obtain⟨hc4,h⟩:=aF h
    refine rr [] [(1,.str r3)] [] [2] [] [(2,.str (r3++[10]))] [] [_,_] (aj.cons (c1 (nK n a0 _ hr3)) (aj.cons hc4 aj.nil)) (To.ah (Wp.ret (To.aL ?_)))
    cases h
    exact To.done hΓ (by kernel_rfl)
   ·refine Wp.skip (To.ah (Wp.seq ?_))
    obtain⟨r5,hr5,h⟩:=ay h
    refine rc [] 1 [2] [] [(2,.str r5)] [] (Bv n a0 [] [] _ hr5) (To.ah (Wp.ret ?_))
    cases h
    exact To.done hΓ (by kernel_rfl)
def jo(n:Nat)(v1:Bs)(v5:Bs)(v6:Int)(v7:Int)(b2:af):Option (Int) :=
 if(decide (0<=v7/\v7<(List.length v5:Int)))=true then(if((((v5)[Int.toNat v7]?.getD 0).toNat:Int)==10)=true then(some (IntKind.wrap .i64 (v6+1)))
 else some v6) else none
theorem sr(n:Nat)(v1:Bs)(v5:Bs)(v6:Int)(v7:Int)(b2:af)(o:Int)(h:jo n v1 v5 v6 v7 b2=some o)(hQ:To 51 F0 w0 [(1,.str v1),(2,.own 2 0),(5,.str v5),(6,vi o),(7,vi v7)] [(2,26,qc6 b2)] .normal Q):Wp Tryz.prog 51 F0 w0 [(1,.str v1),(2,.own 2 0),(5,.str v5),(6,vi v6),(7,vi v7)] [(2,26,qc6 b2)] (cA (cB (cI (cI (cB (cA (cB (cB (cB (cB (cF Tryz.f5))))))))))) Q:=by
 unfold jo at h
 refine Wp.block (Wp.seq ?_)
 obtain⟨hc4,h⟩:=aF h
 refine r0 [1,2,5,6,7,28] [2] [(1,.str v1),(2,.own 2 0),(5,.str v5),(6,vi v6),(7,vi v7),(28,vb ((ex9 v5 v7)==10))] [(2,26,qc6 b2)] (aj.cons hc4 aj.nil) (To.ah (cn h (fun h=>?_) (fun h=>?_)))
 ·refine rg [1,2,5,6,7] [2] [(1,.str v1),(2,.own 2 0),(5,.str v5),(Df v6),(7,vi v7)] [(2,26,qc6 b2)] (To.aS ?_)
  cases h
  exact hQ
 ·refine Wp.skip (To.aS (kt [1,2,5,6,7] [2] [(1,.str v1),(2,.own 2 0),(5,.str v5),(6,vi v6),(7,vi v7)] [(2,26,qc6 b2)] ?_))
  cases h
  exact hQ
def eF(n:Nat)(v1:Bs)(v5:Bs)(b2:af):Nat->Int->Int->Option (Int)
 |0,_,_=>none
 |k+1,v6,v7=>if(decide (v7<(List.length v5:Int)))=true then((jo n v1 v5 v6 v7 b2).bind fun o4 =>
 eF n v1 v5 b2 k o4 (IntKind.wrap .i64 (v7+1)))
 else some v6
theorem sT(n:Nat)(v1:Bs)(v5:Bs)(b2:af)(k:Nat):∀(v6:Int)(v7:Int)(o:Int),eF n v1 v5 b2 k v6 v7=some o->To 51 F0 w0 [(1,.str v1),(2,.own 2 0),(5,.str v5),(6,vi o)] [(2,26,qc6 b2)] (.exit 0) Q->WL Tryz.prog 51 F0 w0 [(1,.str v1),(2,.own 2 0),(5,.str v5),(6,vi v6),(7,vi v7)] [(2,26,qc6 b2)] (cI (cI (cB (cA (cB (cB (cB (cB (cF Tryz.f5))))))))) Q:=by
 induction k with
 |zero=>intro v6 v7 o h;cases h
 |succ k ih =>
  intro v6 v7 o h hQ
  rw[eF] at h
  refine WL.round (Wp.seq (Wp.seq (rg [1,2,5,6,7,22] [2] [(1,.str v1),(2,.own 2 0),(5,.str v5),(6,vi v6),(7,vi v7),(22,vb (tQ v7 v5))] [(2,26,qc6 b2)] (To.ah (cn h (fun h=>?_) (fun h=>?_))))))
  ·refine Wp.skip (To.ah (Wp.seq ?_))
   obtain⟨o4,ho4,h⟩:=ay h
   refine kw [1,2,5,6,7] [2] [(1,.str v1),(2,.own 2 0),(5,.str v5),(6,vi v6),(7,vi v7)] [(2,26,qc6 b2)] (sr n v1 v5 v6 v7 b2 o4 ho4 (To.ah (rg [1,2,5,6,7] [2] [(1,.str v1),(2,.own 2 0),(5,.str v5),(6,vi o4),(7,vi (IntKind.wrap .i64 (v7+1)))] [(2,26,qc6 b2)] (kt [1,2,5,6,7] [2] [(1,.str v1),(2,.own 2 0),(5,.str v5),(6,vi o4),(7,vi (IntKind.wrap .i64 (v7+1)))] [(2,26,qc6 b2)] (To.again ?_)))))
   exact ih o4 (IntKind.wrap .i64 (v7+1)) _ h hQ
  ·refine Wp.exit (To.bU (To.bU (kt [1,2,5,6] [2] [(1,.str v1),(2,.own 2 0),(5,.str v5),(6,vi v6)] [(2,26,qc6 b2)] ?_)))
   cases h
   exact hQ
def kF(n:Nat)(a0:af)(a1:Bs):Option (Bool) :=
 (kR n a0 200).bind fun r1 =>
 if(bif (!r1) then true else(decide ((List.length a1:Int)>2000)))=true then((kT n).bind fun r2 =>
 some r2)
 else((kD n a0).bind fun r3 =>
 (eF n a1 r3 a0 n 0 0).bind fun o4 =>
 (mM n a0).bind fun r5 =>
 ((if((r3==r5)==true)=true then kj n a0 else some 0)).bind fun r6 =>
 ((if((bif (r3==r5) then(r6==o4) else false)==true)=true then jO n a1 else some [])).bind fun r7 =>
 ((if((bif (r3==r5) then(r6==o4) else false)==true)=true then jb n a1 else some [])).bind fun r8 =>
 ((if((bif (bif (r3==r5) then(r6==o4) else false) then(r7==r8) else false)==true)=true then kT n else some false)).bind fun r9 =>
 some (bif (bif (bif (r3==r5) then(r6==o4) else false) then(r7==r8) else false) then r9 else false))
theorem uO(n:Nat)(a0:af)(a1:Bs)(r:Bool)(h:kF n a0 a1=some r):aT Tryz.prog 5 [.agg (qc6 a0),.str a1] (vb r):=by
 unfold kF at h
 refine xo Tryz.f5 rfl fun F0 w0 _=>?_
 refine Wp.seq (rg [1,2] [2] [(1,.str a1),(2,.own 2 0)] [(2,26,qc6 a0)] (To.ah (Wp.seq (Wp.seq ?_))))
 obtain⟨r1,hr1,h⟩:=ay h
 refine rc [] 1 [1,2,15] [2] [(1,.str a1),(2,.own 2 0),(15,vb (bif (!r1) then true else(decide ((List.length a1:Int)>2000))))] [(2,26,qc6 a0)] (zG n a0 200 _ hr1) (To.ah (cn h (fun h=>?_) (fun h=>?_)))
 ·refine Wp.seq ?_
  obtain⟨r2,hr2,h⟩:=ay h
  refine rc [] 0 [4] [] [(4,vb r2)] [] (sZ n  _ hr2) (To.ah (Wp.ret (To.aL ?_)))
  cases h
  exact To.done hΓ (by kernel_rfl)
 ·refine Wp.skip (To.ah (Wp.seq ?_))
  obtain⟨r3,hr3,h⟩:=ay h
  refine rc [] 1 [1,2,5] [2] [(1,.str a1),(2,.own 2 0),(5,.str r3)] [(2,26,qc6 a0)] (uG n a0 _ hr3) (To.ah (Wp.seq (rg [1,2,5,6] [2] [(1,.str a1),(2,.own 2 0),(5,.str r3),(6,vi 0)] [(2,26,qc6 a0)] (To.ah (Wp.seq (Wp.seq (rg [1,2,5,6,7] [2] [(1,.str a1),(2,.own 2 0),(5,.str r3),(6,vi 0),(7,vi 0)] [(2,26,qc6 a0)] (To.ah (Wp.block ?_)))))))))
  obtain⟨o4,ho4,h⟩:=ay h
  refine kw [1,2,5,6,7] [2] [(1,.str a1),(2,.own 2 0),(5,.str r3),(6,vi 0),(7,vi 0)] [(2,26,qc6 a0)] (Wp.fP (sT n a1 r3 a0 n 0 0 o4 ho4 (To.dW (To.ah (Wp.seq ?_)))))
  obtain⟨r5,hr5,h⟩:=ay h
  obtain⟨r6,hr6,h⟩:=ay h
  obtain⟨r7,hr7,h⟩:=ay h
  obtain⟨r8,hr8,h⟩:=ay h
  obtain⟨r9,hr9,h⟩:=ay h
  refine rr [] [(2,.str r5),(6,vi r6),(12,.str r7),(14,.str r8),(18,vb r9)] [] [4] [] [(4,vb (bif (bif (bif (r3==r5) then(r6==o4) else false) then(r7==r8) else false) then r9 else false))] [] [_,(((r3==r5)==true)=true->CX Tryz.prog 20 [.agg (qc6 a0)] (vi r6)),(((bif (r3==r5) then(r6==o4) else false)==true)=true->CX Tryz.prog 21 [.str a1] (.str r7)),(((bif (r3==r5) then(r6==o4) else false)==true)=true->CX Tryz.prog 22 [.str a1] (.str r8)),(((bif (bif (r3==r5) then(r6==o4) else false) then(r7==r8) else false)==true)=true->CX Tryz.prog 17 [] (vb r9))] (aj.cons (c1 (zH n a0 _ hr5)) (aj.cons (fun hg=>cx (uC n a0 _ (iq hg hr6))) (aj.cons (fun hg=>cx (oH n a1 _ (iq hg hr7))) (aj.cons (fun hg=>cx (oh n a1 _ (iq hg hr8))) (aj.cons (fun hg=>cx (sZ n  _ (iq hg hr9))) aj.nil))))) (To.ah (Wp.ret ?_))
  cases h
  exact To.done hΓ (by kernel_rfl)
theorem Gz:mq Tryz.prog 3 (fun n:Int=>IntKind.min .i64<=n/\n<=IntKind.max .i64) (fun n=>[.val (.int .i64 n)]):=Gt (by kernel_rfl)
theorem qR:mq Tryz.prog 9 (fun l:Bs=>l.length<=maxLen) (fun l=>[.str l]):=Ib (by kernel_rfl)
def AA(l:Ls):Prop:=l.length<=maxLen/\∀x∈l,(List.length x<=maxLen)
theorem Bh:mq Tryz.prog 23 AA (fun l=>[.recs (α:=Bs) [] dc l]):=DV (α:=Bs) (cells:=dc) [] (by kernel_rfl) (by kernel_rfl) (of_decide_eq_true (by kernel_rfl)) qR
inductive nM:af->Prop
 |mk (x:af) (h:(IntKind.min .i64<=x.aD/\x.aD<=IntKind.max .i64)/\(List.length x.aI<=maxLen)/\(AA x.av)) (hl:x.ai.length<=maxLen) (hk:∀y∈x.ai,nM y):nM x
theorem zX:mq Tryz.prog 26 nM uJ:=by
 refine Hw fun N ih=>?_
 intro H enc W fuel cs d ps hN h
 obtain⟨hl,hf⟩:=Ht Tryz.underlying26 hN h
 have hl:cs.length=4:=hl.trans (by kernel_rfl)
 obtain⟨x0,w0,r0⟩:=hf 0 _ rfl (Gz.n N)
 have r0:=BF (a':=0) (b':=1) r0 (by kernel_rfl) (by kernel_rfl)
 obtain⟨x1,w1,r1⟩:=hf 1 _ rfl (qR.n N)
 have r1:=BF (a':=1) (b':=1) r1 (by kernel_rfl) (by kernel_rfl)
 obtain⟨x2,w2,r2⟩:=hf 2 _ rfl (Bh.n N)
 have r2:=BF (a':=2) (b':=1) r2 (by kernel_rfl) (by kernel_rfl)
 obtain⟨x3,w3,r3⟩:=hf 3 _ rfl (Dz (α:=af) (pre:=bg) (kids:=aZ) (af.mk 0 [] [] []) Tryz.underlying24 (by kernel_rfl) (of_decide_eq_true (by kernel_rfl)) ih)
 have r3:=BF (a':=3) (b':=1) r3 (by kernel_rfl) (by kernel_rfl)
 refine⟨⟨x0,x1,x2,x3⟩,.mk _ ⟨w0,w1,w2⟩ w3.1 w3.2,?_⟩
 exact parts_all (l:=[([.val (.int .i64 x0)],1),([.str x1],1),([.recs (α:=Bs) [] dc x2],1),([.tree (α:=af) (af.mk 0 [] [] []) bg aZ x3],1)]) ⟨r0,r1,r2,r3,Nat.le_of_eq hl⟩ rfl
end Go.Proofs.YtefojkdckfidcaaGreatDoor.M
