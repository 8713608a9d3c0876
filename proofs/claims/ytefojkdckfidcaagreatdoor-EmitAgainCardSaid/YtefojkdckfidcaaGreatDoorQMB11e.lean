import Derived.Test.YtefojkdckfidcaaGreatDoorQPlain
set_option linter.all false
namespace Go.Proofs.YtefojkdckfidcaaGreatDoor.M
open Go.RowKit Go.Proofs.YtefojkdckfidcaaGreatDoor.RX
set_option maxRecDepth 100000
def gI(n:Nat):Ls->Bs->Option (Bs)
 |[],b1000000=>some b1000000
 |x::r,b1000000=>if(decide ((List.length b1000000+List.length x)*(1+1)<=limit))=true then(if(decide ((List.length (b1000000++x)+1)*(1+1)<=limit))=true then(gI n r ((b1000000++x)++[10])) else none) else none
theorem zn(n:Nat)(x:Bs)(r:Ls)(b1000000:Bs)(o:Bs)(h:gI n (x::r) b1000000=some o){F0:Fz}{w0:Pt Tryz.prog}{Lx:ay}:Wp Tryz.prog 34 F0 w0 [(3,.own 1000000 0),(4,.str x)] [(504001,5,[rc1 b1000000]),(1000000,68,[.opt 1000000,.bf 504001])] (cRB (cI (cB (cA (cB (cB (cB (cF Tryz.f18)))))))) (oL F0 w0 (fun(s:Bs)=>gI n r s=some o) (fun(s:Bs)=>[(504001,5,[rc1 s]),(1000000,68,[.opt 1000000,.bf 504001])]) none Lx):=by
 rw[gI] at h
 refine Wp.block (Wp.seq ?_)
 obtain⟨u3,h⟩:=aK h
 refine rb [] 1 ⟨[(1000000,1000000),(1000001,504001)],[(1000000,1000000),(1,504001)],[.own 1000000 0,.str x],[(1000000,68,[.opt 1000000,.bf 1000001]),(1000001,5,[rc1 b1000000])],.tup [vi (List.length x:Int),.val (.nilIface)],[(1000000,68,[.opt 1000000,.bf 1]),(1,5,[rc1 (b1000000++x)])]⟩ [3] [504001,1000000] [(3,.own 1000000 0)] [(504001,5,[rc1 (b1000000++x)]),(1000000,68,[.opt 1000000,.bf 504001])] (writeString (l:=b1000000) (s:=x) u3) (To.ai ?_)
 obtain⟨u4,h⟩:=aK h
 refine rb [] 0 ⟨[(1000000,1000000),(1000001,504001)],[(1000000,1000000),(1,504001)],[.own 1000000 0,.val (.int .u8 10)],[(1000000,68,[.opt 1000000,.bf 1000001]),(1000001,5,[rc1 (b1000000++x)])],.val (.nilIface),[(1000000,68,[.opt 1000000,.bf 1]),(1,5,[rc1 ((b1000000++x)++[10])])]⟩ [3] [504001,1000000] [(3,.own 1000000 0)] [(504001,5,[rc1 ((b1000000++x)++[10])]),(1000000,68,[.opt 1000000,.bf 504001])] (JJ (l:=(b1000000++x)) (x:=10) rfl u4) (To.br ?_)
 exact To.round ((b1000000++x)++[10]) [504001,1000000] h (by kernel_rfl)
def jJ(n:Nat)(a0:af):Option (Bs) :=
 if(a0.aF==0)=true then(some [])
 else(if(bif (a0.aF==1) then(bif (a0.au==[45,45,45]) then true else(a0.au==[46,46,46])) else false)=true then((jq n a0.au).bind fun r1 =>
 if(decide (((List.length r1+List.length ([10]:Bs):Nat):Int)<=9223372036854775807))=true then(some (r1++[10])) else none)
 else((uk n a0).bind fun xs3 =>
 (gI n xs3 ([]:List (UInt8))).bind fun o4 =>
 some o4))
theorem nZ(n:Nat)(a0:af)(r:Bs)(h:jJ n a0=some r):bC Tryz.prog 18 [.agg (qc9 a0)] (.str r):=by
 unfold jJ at h
 refine AU (fn:=Tryz.f18) (by kernel_rfl) rfl (by kernel_rfl) (Nat.le_of_ble_eq_true (by kernel_rfl)) fun F0 w0 _=>?_
 refine kw [0] [] [(0,.agg (qc9 a0))] [] (Wp.seq (rg [1] [1] [(1,.own 1 0)] [(1,26,qc9 a0)] (To.ai (Wp.seq (Wp.block (Wp.seq (rg [1,5] [1] [(1,.own 1 0),(5,vb (a0.aF==0))] [(1,26,qc9 a0)] (To.ai (cn h (fun h=>?_) (fun h=>?_))))))))))
 ·refine Wp.seq (rg [2] [] [(2,.str [])] [] (To.ai (Wp.ret (To.aX (To.aO ?_)))))
  cases h
  first|exact To.Aq hΓ hA (by kernel_rfl) (by kernel_rfl)|exact To.yb hΓ (by kernel_rfl)
 ·refine Wp.seq (rg [1,9] [1] [(1,.own 1 0),(9,vb (bif (a0.aF==1) then(bif (a0.au==[45,45,45]) then true else(a0.au==[46,46,46])) else false))] [(1,26,qc9 a0)] (To.ai (cn h (fun h=>?_) (fun h=>?_))))
  ·refine Wp.seq ?_
   obtain⟨r1,hr1,h⟩:=aG h
   obtain⟨hc2,h⟩:=aK h
   refine rr [] [(2,.str r1)] [] [2] [] [(2,.str (r1++[10]))] [] [_,_] (ax.cons (c1 (mg n a0.au _ hr1)) (ax.cons hc2 ax.nil)) (To.ai (Wp.ret (To.aX (To.aO ?_))))
   cases h
   first|exact To.Aq hΓ hA (by kernel_rfl) (by kernel_rfl)|exact To.yb hΓ (by kernel_rfl)
  ·refine Wp.skip (To.br (To.ai (Wp.seq (rg [1,3] [1,3] [(1,.own 1 0),(3,.own 3 0)] [(1,26,qc9 a0),(3,68,[.val (.pointer none),.val (.slice none 0 0)])] (To.pre (St.N6 3 4181 5 (by decide) (by kernel_rfl) (L':=[(1,26,qc9 a0),(3,68,[.opt 3,.bf 4181])]) (by kernel_rfl)) (To.ai (Wp.seq (Wp.seq (rr [] [(1,.fn 78 [.el (qc9 a0)])] [] [3,28] [3,4181] [(3,.own 3 0),(28,.fn 78 [.el (qc9 a0)])] [(3,68,[.opt 3,.bf 4181]),(4181,5,[rc1 []])] [(true=true->CX Tryz.prog 43 [.agg (qc9 a0)] (.fn 78 [.el (qc9 a0)]))] (ax.cons (fun _=>cx (zO a0)) ax.nil) (To.ai (Wp.block ?_)))))))))))
   obtain⟨xs3,hxs3,h⟩:=aG h
   obtain⟨o4,ho4,h⟩:=aG h
   refine kw [3,28] [3,4181] [(3,.own 3 0),(28,.fn 78 [.el (qc9 a0)])] [(3,68,[.opt 3,.bf 4181]),(4181,5,[rc1 []])] (Wp.FX (σ:=Bs) (encs:=kL) (xs:=xs3) ⟨[(1000000,3),(1000001,4181)],[(1000000,3),(504001,4181)],[],[(1000000,68,[.opt 1000000,.bf 1000001]),(1000001,5,[rc1 []])],.hole,[(504001,5,[rc1 o4]),(1000000,68,[.opt 1000000,.bf 504001])]⟩ (fun r (s:Bs)=>gI n r s=some o4) (fun(s:Bs)=>[(504001,5,[rc1 s]),(1000000,68,[.opt 1000000,.bf 504001])]) none [3] [3] [(3,.own 1000000 0)] [(3,.own 3 0)] [(4181,5,[rc1 o4]),(3,68,[.opt 3,.bf 4181])] ([]:List (UInt8)) (fun x (s:Bs)=>[(3,.own 1000000 0),(4,.str x)]) (fun x (s:Bs)=>[(504001,5,[rc1 s]),(1000000,68,[.opt 1000000,.bf 504001])]) rfl (by kernel_rfl) (by kernel_rfl) (DT n a0 xs3 hxs3) (by kernel_rfl) (by kernel_rfl) (fun s=>by kernel_rfl) (by kernel_rfl) (by kernel_rfl) (by kernel_rfl) ho4 (fun F1 w1 a w h=>St.reL [504001,1000000] (by kernel_rfl) a w (St.restart (L':=[(1000000,68,[.opt 1000000,.bf 504001]),(504001,5,[rc1 []])]) 1000001 504001 (by decide) (by kernel_rfl) (by kernel_rfl) a w (h))) (fun x=>rfl) (by decide) (by decide) (fun x=>by kernel_rfl) (by kernel_rfl) (by kernel_rfl) (fun x s=>by kernel_rfl) (fun s h=>⟨rfl,by rw[gI] at h;cases h;rfl⟩) (by kernel_rfl) (by kernel_rfl) (fun x r s h F1 w1=>?_) (fun x r s h F1 w1=>zn n x r s _ h) (fun F1 w1 hA=>?_))
   ·refine rg [3,4] [504001,1000000] [(3,.own 1000000 0),(4,.str x)] [(504001,5,[rc1 s]),(1000000,68,[.opt 1000000,.bf 504001])] (kt [3,4] [504001,1000000] [(3,.own 1000000 0),(4,.str x)] [(504001,5,[rc1 s]),(1000000,68,[.opt 1000000,.bf 504001])] ?_)
    exact fun a w h=>⟨rfl,h⟩
   ·refine To.br (To.ai (Wp.seq (rb [] 0 ⟨[(1000000,3),(1000001,4181)],[(1000000,3)],[.own 1000000 0],[(1000000,68,[.opt 1000000,.bf 1000001]),(1000001,5,[rc1 o4])],.str o4,[(1000000,68,[.opt 1000000,.hole])]⟩ [2] [] [(2,.str o4)] [] (PO (l:=o4)) (To.ai (Wp.ret ?_)))))
    cases h
    first|exact To.Aq hΓ hA (by kernel_rfl) (by kernel_rfl)|exact To.yb hΓ (by kernel_rfl)
def jD(n:Nat):Ls->Int->Option (Int)
 |[],b1000000=>some b1000000
 |x::r,b1000000=>jD n r (IntKind.wrap .i64 (b1000000+1))
theorem zt(n:Nat)(x:Bs)(r:Ls)(b1000000:Int)(o:Int)(h:jD n (x::r) b1000000=some o){F0:Fz}{w0:Pt Tryz.prog}{Lx:ay}:Wp Tryz.prog 13 F0 w0 [(3,.own 1000000 0)] [(1000000,3,[vi b1000000])] (cRB (cI (cB (cA (cB (cB (cB (cF Tryz.f20)))))))) (oL F0 w0 (fun(s:Int)=>jD n r s=some o) (fun(s:Int)=>[(1000000,3,[vi s])]) none Lx):=by
 rw[jD] at h
 refine Wp.block (rg [3] [1000000] [(3,.own 1000000 0)] [(1000000,3,[vi (IntKind.wrap .i64 (b1000000+1))])] (To.br ?_))
 exact To.round (IntKind.wrap .i64 (b1000000+1)) [1000000] h (by kernel_rfl)
def su(n:Nat)(a0:af):Option (Int) :=
 if(a0.aF==0)=true then some 0
 else((uk n a0).bind fun xs1 =>
 (jD n xs1 0).bind fun o2 =>
 some o2)
theorem D7(n:Nat)(a0:af)(r:Int)(h:su n a0=some r):bC Tryz.prog 20 [.agg (qc9 a0)] (vi r):=by
 unfold su at h
 refine AU (fn:=Tryz.f20) (by kernel_rfl) rfl (by kernel_rfl) (Nat.le_of_ble_eq_true (by kernel_rfl)) fun F0 w0 _=>?_
 refine kw [0] [] [(0,.agg (qc9 a0))] [] (Wp.seq (rg [1] [1] [(1,.own 1 0)] [(1,26,qc9 a0)] (To.ai (Wp.seq (Wp.seq (rg [1,6] [1] [(1,.own 1 0),(6,vb (a0.aF==0))] [(1,26,qc9 a0)] (To.ai (cn h (fun h=>?_) (fun h=>?_)))))))))
 ·refine Wp.seq (rg [2] [] [(2,vi 0)] [] (To.ai (Wp.ret (To.aO ?_))))
  cases h
  first|exact To.Aq hΓ hA (by kernel_rfl) (by kernel_rfl)|exact To.yb hΓ (by kernel_rfl)
 ·refine Wp.skip (To.ai (Wp.seq (rg [1,3] [1,3] [(1,.own 1 0),(3,.own 3 0)] [(1,26,qc9 a0),(3,3,[vi 0])] (To.ai (Wp.seq (Wp.seq (rr [] [(1,.fn 78 [.el (qc9 a0)])] [] [3,8] [3] [(3,.own 3 0),(8,.fn 78 [.el (qc9 a0)])] [(3,3,[vi 0])] [(true=true->CX Tryz.prog 43 [.agg (qc9 a0)] (.fn 78 [.el (qc9 a0)]))] (ax.cons (fun _=>cx (zO a0)) ax.nil) (To.ai (Wp.block ?_)))))))))
  obtain⟨xs1,hxs1,h⟩:=aG h
  obtain⟨o2,ho2,h⟩:=aG h
  refine kw [3,8] [3] [(3,.own 3 0),(8,.fn 78 [.el (qc9 a0)])] [(3,3,[vi 0])] (Wp.FX (σ:=Int) (encs:=kL) (xs:=xs1) ⟨[(1000000,3)],[(1000000,3)],[],[(1000000,3,[vi 0])],.hole,[(1000000,3,[vi o2])]⟩ (fun r (s:Int)=>jD n r s=some o2) (fun(s:Int)=>[(1000000,3,[vi s])]) none [3] [3] [(3,.own 1000000 0)] [(3,.own 3 0)] [(3,3,[vi o2])] 0 (fun x (s:Int)=>[(3,.own 1000000 0)]) (fun x (s:Int)=>[(1000000,3,[vi s])]) rfl (by kernel_rfl) (by kernel_rfl) (DT n a0 xs1 hxs1) (by kernel_rfl) (by kernel_rfl) (fun s=>by kernel_rfl) (by kernel_rfl) (by kernel_rfl) (by kernel_rfl) ho2 (fun F1 w1 a w h=>h) (fun x=>rfl) (by decide) (by decide) (fun x=>by kernel_rfl) (by kernel_rfl) (by kernel_rfl) (fun x s=>by kernel_rfl) (fun s h=>⟨rfl,by rw[jD] at h;cases h;rfl⟩) (by kernel_rfl) (by kernel_rfl) (fun x r s h F1 w1=>?_) (fun x r s h F1 w1=>zt n x r s _ h) (fun F1 w1 hA=>?_))
  ·refine Wp.skip (kt [3] [1000000] [(3,.own 1000000 0)] [(1000000,3,[vi s])] ?_)
   exact fun a w h=>⟨rfl,h⟩
  ·refine To.br (To.ai (Wp.seq (rg [2] [] [(2,vi o2)] [] (To.ai (Wp.ret ?_)))))
   cases h
   first|exact To.Aq hΓ hA (by kernel_rfl) (by kernel_rfl)|exact To.yb hΓ (by kernel_rfl)
def kq(n:Nat):Option (Bool) :=
 (dL n Qx).bind fun r1 =>
 ((if((r1.2.2==0)==true)=true then jJ n r1.1 else some [])).bind fun r2 =>
 ((if((bif (r1.2.2==0) then(r2==Jc) else false)==true)=true then su n r1.1 else some 0)).bind fun r3 =>
 aP ((bif (bif (r1.2.2==0) then(r2==Jc) else false) then(r3==4) else false):Bool) fun x4 =>
 some x4
theorem qj(n:Nat)(r:Bool)(h:kq n=some r):bC Tryz.prog 17 [] (vb r):=by
 unfold kq at h
 refine xo Tryz.f17 rfl fun F0 w0 _=>?_
 refine Wp.seq (rg [] [] [] [] (To.ai (Wp.seq ?_)))
 obtain⟨r1,hr1,h⟩:=aG h
 refine rc [] 0 [1,3] [1] [(1,.own 1 0),(3,vi r1.2.2)] [(1,26,qc9 r1.1)] (nj n Qx _ hr1) (To.ai (Wp.seq ?_))
 obtain⟨r2,hr2,h⟩:=aG h
 obtain⟨r3,hr3,h⟩:=aG h
 obtain⟨x4,hx4,h⟩:=bV h
 refine rr [] [(4,.str r2),(9,vi r3)] [] [0] [] [(0,vb (bif (bif (r1.2.2==0) then(r2==Jc) else false) then(r3==4) else false))] [] [(((r1.2.2==0)==true)=true->CX Tryz.prog 18 [.agg (qc9 r1.1)] (.str r2)),(((bif (r1.2.2==0) then(r2==Jc) else false)==true)=true->CX Tryz.prog 20 [.agg (qc9 r1.1)] (vi r3))] (ax.cons (fun hg=>cx (nZ n r1.1 _ (jC hg hr2))) (ax.cons (fun hg=>cx (D7 n r1.1 _ (jC hg hr3))) ax.nil)) (To.eq (K':=[(0,vb x4)]) (L':=[]) (by cases hx4;rfl) (by cases hx4;rfl) (To.ai (Wp.ret ?_)))
 cases h
 exact To.done hΓ (by kernel_rfl)
def jB(n:Nat)(v0:Ls)(v1:Ls):Nat->Int->Option (Sum (Unit) (Bool))
 |0,_=>none
 |k+1,v5=>if(decide (v5<(List.length v0:Int)))=true then(if(decide (0<=v5/\v5<(List.length v0:Int)))=true then(if(decide (0<=v5/\v5<(List.length v1:Int)))=true then(if(!(((v0)[Int.toNat v5]?.getD [])==((v1)[Int.toNat v5]?.getD [])))=true then(some (.inr false))
 else(jB n v0 v1 k (IntKind.wrap .i64 (v5+1)))) else none) else none)
 else(some (.inl ()))
theorem zq(n:Nat)(v0:Ls)(v1:Ls){F0:Fz}{w0:Pt Tryz.prog}{Q:Exit->Act->World->Prop}(k:Nat):∀(v5:Int)(o:Sum (Unit) (Bool)),jB n v0 v1 k v5=some o->(Sum.elim (fun s=>To 26 F0 w0 [] [] (.exit 0) Q) (fun s=>To 26 F0 w0 [(4,vb s)] [] .ret Q)) o->WL Tryz.prog 26 F0 w0 [(0,ls v0),(1,ls v1),(5,vi v5)] [] (cI (cI (cB (cA (cB (cB (cF Tryz.f30))))))) Q:=by
 induction k with
 |zero=>intro v5 o h;cases h
 |succ k ih =>
  intro v5 o h hQ
  rw[jB] at h
  refine WL.round (Wp.seq (Wp.seq (rg [0,1,5,14] [] [(0,ls v0),(1,ls v1),(5,vi v5),(14,vb (decide (v5<(List.length v0:Int))))] [] (To.ai (cn h (fun h=>?_) (fun h=>?_))))))
  ·refine Wp.skip (To.ai (Wp.seq (Wp.block (Wp.seq ?_))))
   obtain⟨hc1,h⟩:=aK h
   obtain⟨hc2,h⟩:=aK h
   refine Wp.eQ hm hΓ [] [0,1,5,25] [] (K':=[(0,ls v0),(1,ls v1),(5,vi v5),(25,vb (!(((v0)[Int.toNat v5]?.getD [])==((v1)[Int.toNat v5]?.getD []))))]) (L':=[]) (ob:=[(decide (0<=v5/\v5<(List.length v0:Int)))=true,(decide (0<=v5/\v5<(List.length v1:Int)))=true]) (by kernel_rfl) (ax.cons hc1 (ax.cons hc2 ax.nil)) (To.ai (cn h (fun h=>?_) (fun h=>?_)))
   ·refine Wp.seq (rg [4] [] [(4,vb false)] [] (To.ai (Wp.ret (To.aX (To.aO (To.aO ?_))))))
    cases h
    exact hQ
   ·refine Wp.skip (To.br (To.ai (rg [0,1,5] [] [(0,ls v0),(1,ls v1),(ex4 v5)] [] (kt [0,1,5] [] [(0,ls v0),(1,ls v1),(ex4 v5)] [] (To.again ?_)))))
    exact ih (IntKind.wrap .i64 (v5+1)) _ h hQ
  ·refine Wp.exit (To.dZ (To.dZ (kt [] [] [] [] ?_)))
   cases h
   exact hQ
def pF(n:Nat)(a0:Ls)(a1:Ls):Option (Bool) :=
 if((List.length a0:Int) != (List.length a1:Int))=true then some false
 else((jB n a0 a1 n 0).bind fun o1 =>
 (Sum.elim (fun o1=>some true) (fun o1=>some o1)) o1)
theorem Ej(n:Nat)(a0:Ls)(a1:Ls)(r:Bool)(h:pF n a0 a1=some r):bC Tryz.prog 30 [ls a0,ls a1] (vb r):=by
 unfold pF at h
 refine xo Tryz.f30 rfl fun F0 w0 _=>?_
 refine Wp.seq (rg [0,1] [] [(0,ls a0),(1,ls a1)] [] (To.ai (Wp.seq (Wp.seq (rg [0,1,10] [] [(0,ls a0),(1,ls a1),(10,vb ((List.length a0:Int) != (List.length a1:Int)))] [] (To.ai (cn h (fun h=>?_) (fun h=>?_))))))))
 ·refine Wp.seq (rg [4] [] [(4,vb false)] [] (To.ai (Wp.ret (To.aO ?_))))
  cases h
  exact To.done hΓ (by kernel_rfl)
 ·refine Wp.skip (To.ai (Wp.seq (Wp.seq (rg [0,1,5] [] [(0,ls a0),(1,ls a1),(5,vi 0)] [] (To.ai (Wp.block ?_))))))
  obtain⟨o1,ho1,h⟩:=aG h
  refine kw [0,1,5] [] [(0,ls a0),(1,ls a1),(5,vi 0)] [] (Wp.lD (zq n a0 a1 n 0 o1 ho1 ?_))
  rcases o1 with o1|o1
  ·replace h:=jy h
   refine To.jH (To.ai (Wp.seq (rg [4] [] [(4,vb true)] [] (To.ai (Wp.ret ?_)))))
   cases h
   exact To.done hΓ (by kernel_rfl)
  ·replace h:=ju h
   refine To.aX (To.aO ?_)
   cases h
   exact To.done hΓ (by kernel_rfl)
def iR(R_ref08_Same:af->af->Option (Bool))(n:Nat)(b2:af)(b3:af):Nat->Int->Option (Sum (Unit) (Bool))
 |0,_=>none
 |k+1,v5=>if(decide (v5<(List.length b2.aj:Int)))=true then(if(decide (0<=v5/\v5<(List.length b2.aj:Int)))=true then(if(decide (0<=v5/\v5<(List.length b3.aj:Int)))=true then((R_ref08_Same ((b2.aj)[Int.toNat v5]?.getD (af.mk 0 [] [] [])) ((b3.aj)[Int.toNat v5]?.getD (af.mk 0 [] [] []))).bind fun r3 =>
 if(!r3)=true then(some (.inr false))
 else(iR R_ref08_Same n b2 b3 k (IntKind.wrap .i64 (v5+1)))) else none) else none)
 else(some (.inl ()))
abbrev QE(R_ref08_Same:af->af->Option (Bool)):Prop:=∀(a0:af)(a1:af)(r:Bool),R_ref08_Same a0 a1=some r->bC Tryz.prog 11 [.agg [vi a0.aF,.str a0.au,ls a0.aA,tn8 a0.aj],.agg [vi a1.aF,.str a1.au,ls a1.aA,tn8 a1.aj]] (vb r)
abbrev uJ(x0:af)(x1:Int):=((x0.aj)[Int.toNat x1]?.getD zx7)
theorem zU(R_ref08_Same:af->af->Option (Bool))(hR_ref08_Same:QE R_ref08_Same)(n:Nat)(b2:af)(b3:af){F0:Fz}{w0:Pt Tryz.prog}{Q:Exit->Act->World->Prop}(k:Nat):∀(v5:Int)(o:Sum (Unit) (Bool)),iR R_ref08_Same n b2 b3 k v5=some o->(Sum.elim (fun s=>To 54 F0 w0 [] [] (.exit 0) Q) (fun s=>To 54 F0 w0 [(4,vb s)] [] .ret Q)) o->WL Tryz.prog 54 F0 w0 [(2,.own 2 0),(3,.own 3 0),(5,vi v5)] [(2,26,qc9 b2),(3,26,qc9 b3)] (cI (cI (cB (cA (cB (cB (cF Tryz.f11))))))) Q:=by
 induction k with
 |zero=>intro v5 o h;cases h
 |succ k ih =>
  intro v5 o h hQ
  rw[iR] at h
  refine WL.round (Wp.seq (Wp.seq (rg [2,3,5,39] [2,3] [(2,.own 2 0),(3,.own 3 0),(5,vi v5),(39,vb (decide (v5<(List.length b2.aj:Int))))] [(2,26,qc9 b2),(3,26,qc9 b3)] (To.ai (cn h (fun h=>?_) (fun h=>?_))))))
  ·refine Wp.skip (To.ai (Wp.seq (Wp.block (Wp.seq ?_))))
   obtain⟨hc4,h⟩:=aK h
   obtain⟨hc5,h⟩:=aK h
   obtain⟨r3,hr3,h⟩:=aG h
   refine Wp.eQ hm hΓ [(10,vb r3)] [2,3,5,53] [2,3] (K':=[(2,.own 2 0),(3,.own 3 0),(5,vi v5),(53,vb (!r3))]) (L':=[(2,26,qc9 b2),(3,26,qc9 b3)]) (ob:=[(decide (0<=v5/\v5<(List.length b2.aj:Int)))=true,(decide (0<=v5/\v5<(List.length b3.aj:Int)))=true,(true=true->CX Tryz.prog 11 [.agg [vi ((uJ b2 v5).aF),.str ((uJ b2 v5).au),ls ((uJ b2 v5).aA),tn8 ((uJ b2 v5).aj)],.agg [vi ((uJ b3 v5).aF),.str ((uJ b3 v5).au),ls ((uJ b3 v5).aA),tn8 ((uJ b3 v5).aj)]] (vb r3))]) (by kernel_rfl) (ax.cons hc4 (ax.cons hc5 (ax.cons (fun _=>cx (hR_ref08_Same (uJ b2 v5) (uJ b3 v5) _ hr3)) ax.nil))) (To.ai (cn h (fun h=>?_) (fun h=>?_)))
   ·refine Wp.seq (rg [4] [] [(4,vb false)] [] (To.ai (Wp.ret (To.aX (To.aO (To.aO ?_))))))
    cases h
    exact hQ
   ·refine Wp.skip (To.br (To.ai (rg [2,3,5] [2,3] [(2,.own 2 0),(3,.own 3 0),(ex4 v5)] [(2,26,qc9 b2),(3,26,qc9 b3)] (kt [2,3,5] [2,3] [(2,.own 2 0),(3,.own 3 0),(ex4 v5)] [(2,26,qc9 b2),(3,26,qc9 b3)] (To.again ?_)))))
    exact ih (IntKind.wrap .i64 (v5+1)) _ h hQ
  ·refine Wp.exit (To.dZ (To.dZ (kt [] [] [] [] ?_)))
   cases h
   exact hQ
def mX(R_ref08_Same:af->af->Option (Bool))(n:Nat)(a0:af)(a1:af):Option (Bool) :=
 ((if((bif (a0.aF != a1.aF) then true else(!(a0.au==a1.au)))==false)=true then pF n a0.aA a1.aA else some false)).bind fun r1 =>
 aP ((bif (bif (bif (a0.aF != a1.aF) then true else(!(a0.au==a1.au))) then true else(!r1)) then true else((List.length a0.aj:Int) != (List.length a1.aj:Int))):Bool) fun x2 =>
 if x2=true then some false
 else((iR R_ref08_Same n a0 a1 n 0).bind fun o3 =>
 (Sum.elim (fun o3=>some true) (fun o3=>some o3)) o3)
theorem AB(R_ref08_Same:af->af->Option (Bool))(hR_ref08_Same:QE R_ref08_Same)(n:Nat)(a0:af)(a1:af)(r:Bool)(h:mX R_ref08_Same n a0 a1=some r):bC Tryz.prog 11 [.agg (qc9 a0),.agg (qc9 a1)] (vb r):=by
 unfold mX at h
 refine xo Tryz.f11 rfl fun F0 w0 _=>?_
 refine Wp.seq (rg [2,3] [2,3] [(2,.own 2 0),(3,.own 3 0)] [(2,26,qc9 a0),(3,26,qc9 a1)] (To.ai (Wp.seq (Wp.seq ?_))))
 obtain⟨r1,hr1,h⟩:=aG h
 obtain⟨x2,hx2,h⟩:=bV h
 refine rr [] [(17,vb r1)] [] [2,3,34] [2,3] [(2,.own 2 0),(3,.own 3 0),(34,vb (bif (bif (bif (a0.aF != a1.aF) then true else(!(a0.au==a1.au))) then true else(!r1)) then true else((List.length a0.aj:Int) != (List.length a1.aj:Int))))] [(2,26,qc9 a0),(3,26,qc9 a1)] [(((bif (a0.aF != a1.aF) then true else(!(a0.au==a1.au)))==false)=true->CX Tryz.prog 30 [ls a0.aA,ls a1.aA] (vb r1))] (ax.cons (fun hg=>cx (Ej n a0.aA a1.aA _ (jC hg hr1))) ax.nil) (To.eq (K':=[(2,.own 2 0),(3,.own 3 0),(34,vb x2)]) (L':=[(2,26,qc9 a0),(3,26,qc9 a1)]) (by cases hx2;rfl) (by cases hx2;rfl) (To.ai (cn h (fun h=>?_) (fun h=>?_))))
 ·refine Wp.seq (rg [4] [] [(4,vb false)] [] (To.ai (Wp.ret (To.aO ?_))))
  cases h
  exact To.done hΓ (by kernel_rfl)
 ·refine Wp.skip (To.ai (Wp.seq (Wp.seq (rg [2,3,5] [2,3] [(2,.own 2 0),(3,.own 3 0),(5,vi 0)] [(2,26,qc9 a0),(3,26,qc9 a1)] (To.ai (Wp.block ?_))))))
  obtain⟨o3,ho3,h⟩:=aG h
  refine kw [2,3,5] [2,3] [(2,.own 2 0),(3,.own 3 0),(5,vi 0)] [(2,26,qc9 a0),(3,26,qc9 a1)] (Wp.lD (zU R_ref08_Same hR_ref08_Same n a0 a1 n 0 o3 ho3 ?_))
  rcases o3 with o3|o3
  ·replace h:=jy h
   refine To.jH (To.ai (Wp.seq (rg [4] [] [(4,vb true)] [] (To.ai (Wp.ret ?_)))))
   cases h
   exact To.done hΓ (by kernel_rfl)
  ·replace h:=ju h
   refine To.aX (To.aO ?_)
   cases h
   exact To.done hΓ (by kernel_rfl)
def jj:Nat->af->af->Option (Bool)
 |0=>fun _ _=>none
 |n+1=>mX (jj n) n
theorem wO(n:Nat):∀(a0:af)(a1:af)(r:Bool),jj n a0 a1=some r->bC Tryz.prog 11 [.agg (qc9 a0),.agg (qc9 a1)] (vb r):=by
 induction n with
 |zero=>intro a0 a1 r h;cases h
 |succ n ih=>exact fun a0 a1 r h=>AB (jj n) ih n a0 a1 r h
def mq(n:Nat)(a0:Bs)(a1:Bs):Option (Bool) :=
 if(bif (decide ((List.length a0:Int)>600)) then true else(decide ((List.length a1:Int)>600)))=true then((kq n).bind fun r1 =>
 some r1)
 else((dL n a0).bind fun r2 =>
 (dL n a1).bind fun r3 =>
 if(bif (r2.2.2 != 0) then true else(r3.2.2 != 0))=true then((kq n).bind fun r4 =>
 some r4)
 else((jJ n r2.1).bind fun r5 =>
 (dL n r5).bind fun r6 =>
 ((if(((r6.2.2 != 0)==false)&&((decide ((List.length r5:Int)<=8192))==true))=true then jj n r6.1 r2.1 else some false)).bind fun r7 =>
 ((if(((bif (r6.2.2 != 0) then true else(!r7))==false)&&((decide ((List.length r5:Int)<=8192))==true))=true then jJ n r6.1 else some [])).bind fun r8 =>
 aP ((bif (decide ((List.length r5:Int)<=8192)) then(bif (bif (r6.2.2 != 0) then true else(!r7)) then true else(!(r8==r5))) else false):Bool) fun x9 =>
 if x9=true then some false
 else((jJ n r3.1).bind fun r10 =>
 (jj n r2.1 r3.1).bind fun r11 =>
 ((if(((r5==r10)==r11)==true)=true then kq n else some false)).bind fun r12 =>
 some (bif ((r5==r10)==r11) then r12 else false))))
theorem xI(n:Nat)(a0:Bs)(a1:Bs)(r:Bool)(h:mq n a0 a1=some r):bC Tryz.prog 7 [.str a0,.str a1] (vb r):=by
 unfold mq at h
 refine xo Tryz.f7 rfl fun F0 w0 _=>?_
 refine Wp.seq (rg [0,1] [] [(0,.str a0),(1,.str a1)] [] (To.ai (Wp.seq (Wp.seq (rg [0,1,22] [] [(0,.str a0),(1,.str a1),(22,vb (bif (decide ((List.length a0:Int)>600)) then true else(decide ((List.length a1:Int)>600))))] [] (To.ai (cn h (fun h=>?_) (fun h=>?_))))))))
 ·refine Wp.seq ?_
  obtain⟨r1,hr1,h⟩:=aG h
  refine rc [] 0 [4] [] [(4,vb r1)] [] (qj n  _ hr1) (To.ai (Wp.ret (To.aO ?_)))
  cases h
  exact To.done hΓ (by kernel_rfl)
 ·refine Wp.skip (To.ai (Wp.seq ?_))
  obtain⟨r2,hr2,h⟩:=aG h
  refine rc [] 1 [1,5,7] [5] [(1,.str a1),(5,.own 5 0),(7,vi r2.2.2)] [(5,26,qc9 r2.1)] (nj n a0 _ hr2) (To.ai (Wp.seq ?_))
  obtain⟨r3,hr3,h⟩:=aG h
  refine rc [] 1 [5,7,8,10] [5,8] [(5,.own 5 0),(7,vi r2.2.2),(8,.own 8 0),(10,vi r3.2.2)] [(5,26,qc9 r2.1),(8,26,qc9 r3.1)] (nj n a1 _ hr3) (To.ai (Wp.seq (Wp.seq (rg [5,8,41] [5,8] [(5,.own 5 0),(8,.own 8 0),(41,vb (bif (r2.2.2 != 0) then true else(r3.2.2 != 0)))] [(5,26,qc9 r2.1),(8,26,qc9 r3.1)] (To.ai (cn h (fun h=>?_) (fun h=>?_)))))))
  ·refine Wp.seq ?_
   obtain⟨r4,hr4,h⟩:=aG h
   refine rc [] 0 [4] [] [(4,vb r4)] [] (qj n  _ hr4) (To.ai (Wp.ret (To.aO ?_)))
   cases h
   exact To.done hΓ (by kernel_rfl)
  ·refine Wp.skip (To.ai (Wp.seq ?_))
   obtain⟨r5,hr5,h⟩:=aG h
   refine rc [] 1 [5,8,11] [5,8] [(5,.own 5 0),(8,.own 8 0),(11,.str r5)] [(5,26,qc9 r2.1),(8,26,qc9 r3.1)] (nZ n r2.1 _ hr5) (To.ai (Wp.seq ?_))
   obtain⟨r6,hr6,h⟩:=aG h
   refine rc [] 1 [5,8,11,12,14] [5,8,12] [(5,.own 5 0),(8,.own 8 0),(11,.str r5),(12,.own 12 0),(14,vi r6.2.2)] [(5,26,qc9 r2.1),(8,26,qc9 r3.1),(12,26,qc9 r6.1)] (nj n r5 _ hr6) (To.ai (Wp.seq (Wp.seq ?_)))
   obtain⟨r7,hr7,h⟩:=aG h
   obtain⟨r8,hr8,h⟩:=aG h
   obtain⟨x9,hx9,h⟩:=bV h
   refine rr [] [(9,vb r7),(14,.str r8)] [] [5,8,11,69] [5,8] [(5,.own 5 0),(8,.own 8 0),(11,.str r5),(69,vb (bif (decide ((List.length r5:Int)<=8192)) then(bif (bif (r6.2.2 != 0) then true else(!r7)) then true else(!(r8==r5))) else false))] [(5,26,qc9 r2.1),(8,26,qc9 r3.1)] [((((r6.2.2 != 0)==false)&&((decide ((List.length r5:Int)<=8192))==true))=true->CX Tryz.prog 11 [.agg (qc9 r6.1),.agg (qc9 r2.1)] (vb r7)),((((bif (r6.2.2 != 0) then true else(!r7))==false)&&((decide ((List.length r5:Int)<=8192))==true))=true->CX Tryz.prog 18 [.agg (qc9 r6.1)] (.str r8))] (ax.cons (fun hg=>cx (wO n r6.1 r2.1 _ (jC hg hr7))) (ax.cons (fun hg=>cx (nZ n r6.1 _ (jC hg hr8))) ax.nil)) (To.eq (K':=[(5,.own 5 0),(8,.own 8 0),(11,.str r5),(69,vb x9)]) (L':=[(5,26,qc9 r2.1),(8,26,qc9 r3.1)]) (by cases hx9;rfl) (by cases hx9;rfl) (To.ai (cn h (fun h=>?_) (fun h=>?_))))
   ·refine Wp.seq (rg [4] [] [(4,vb false)] [] (To.ai (Wp.ret (To.aO ?_))))
    cases h
    exact To.done hΓ (by kernel_rfl)
   ·refine Wp.skip (To.ai (Wp.seq ?_))
    obtain⟨r10,hr10,h⟩:=aG h
    obtain⟨r11,hr11,h⟩:=aG h
    obtain⟨r12,hr12,h⟩:=aG h
    refine Wp.eQ hm hΓ [(2,.str r10),(6,vb r11),(9,vb r12)] [4] [] (K':=[(4,vb (bif ((r5==r10)==r11) then r12 else false))]) (L':=[]) (ob:=[(true=true->CX Tryz.prog 18 [.agg (qc9 r3.1)] (.str r10)),(true=true->CX Tryz.prog 11 [.agg (qc9 r2.1),.agg (qc9 r3.1)] (vb r11)),((((r5==r10)==r11)==true)=true->CX Tryz.prog 17 [] (vb r12))]) (by kernel_rfl) (ax.cons (fun _=>cx (nZ n r3.1 _ hr10)) (ax.cons (fun _=>cx (wO n r2.1 r3.1 _ hr11)) (ax.cons (fun hg=>cx (qj n  _ (jC hg hr12))) ax.nil))) (To.ai (Wp.ret ?_))
    cases h
    exact To.done hΓ (by kernel_rfl)
def oU(n:Nat)(v0:Bs)(v1:Int)(v5:Int)(v7:Bool):Option (Int) :=
 if v7=true then(if(decide (0<=(IntKind.wrap .i64 (v1-1))/\(IntKind.wrap .i64 (v1-1))<(List.length v0:Int)))=true then(some (((v0)[Int.toNat (IntKind.wrap .i64 (v1-1))]?.getD 0).toNat:Int)) else none)
 else some v5
def tC(n:Nat)(a0:Bs)(a1:Int):Option (Int) :=
 (oU n a0 a1 32 (decide (a1>0))).bind fun o1 =>
 if(decide (0<=a1/\a1<(List.length a0:Int)))=true then(if(bif ((((a0)[Int.toNat a1]?.getD 0).toNat:Int)==35) then(o1==32) else false)=true then some 2
 else(if(decide (0<=a1/\a1<(List.length a0:Int)))=true then(if((!(((((a0)[Int.toNat a1]?.getD 0).toNat:Int) != 34)==true)||decide (0<=a1/\a1<(List.length a0:Int))))=true then(aP ((bif ((((a0)[Int.toNat a1]?.getD 0).toNat:Int) != 34) then((((a0)[Int.toNat a1]?.getD 0).toNat:Int) != 39) else false):Bool) fun x2 =>
 if x2=true then some 0
 else(if(bif (bif (bif (o1==32) then true else(o1==91)) then true else(o1==123)) then true else(o1==44))=true then some 1
 else some 0)) else none) else none)) else none
def pH(a0:Int):Bool :=
 (bif (bif (decide (a0>=32)) then(decide (a0<=126)) else false) then true else(decide (a0>=128)))
def nQ(a0:Int):Int :=
 if(bif (decide (a0>=48)) then(decide (a0<=57)) else false)=true then((IntKind.wrap .i64 ((IntKind.wrap .i64 (a0))-48)))
 else(if(bif (decide (a0>=97)) then(decide (a0<=102)) else false)=true then((IntKind.wrap .i64 ((IntKind.wrap .i64 (a0))-87)))
 else(if(bif (decide (a0>=65)) then(decide (a0<=70)) else false)=true then((IntKind.wrap .i64 ((IntKind.wrap .i64 (a0))-55)))
 else 16))
def dT(n:Nat)(v0:Bs):Nat->Int->(List (UInt8))->Option (Sum (Unit) (Bs×Int×Bool))
 |0,_,_=>none
 |k+1,v1,v7=>if(decide (v1<(List.length v0:Int)))=true then(if(decide (0<=v1/\v1<(List.length v0:Int)))=true then(if(!(pH (((v0)[Int.toNat v1]?.getD 0).toNat:Int)))=true then(some (.inr ([],0,false)))
 else(if((((v0)[Int.toNat v1]?.getD 0).toNat:Int)==34)=true then(some (.inr (v7,(IntKind.wrap .i64 (v1+1)),true)))
 else(if((((v0)[Int.toNat v1]?.getD 0).toNat:Int) != 92)=true then(if(decide ((List.length v7+List.length ([((v0)[Int.toNat v1]?.getD 0)]:List (UInt8)))*(1+1)<=limit))=true then(dT n v0 k (IntKind.wrap .i64 (v1+1)) (v7++([((v0)[Int.toNat v1]?.getD 0)]:List (UInt8)))) else none)
 else(if(decide ((IntKind.wrap .i64 (v1+1))>=(List.length v0:Int)))=true then(some (.inr ([],0,false)))
 else(if(decide (0<=(IntKind.wrap .i64 (v1+1))/\(IntKind.wrap .i64 (v1+1))<(List.length v0:Int)))=true then(aP ((bif ((((v0)[Int.toNat (IntKind.wrap .i64 (v1+1))]?.getD 0).toNat:Int)==92) then true else((((v0)[Int.toNat (IntKind.wrap .i64 (v1+1))]?.getD 0).toNat:Int)==34)):Bool) fun x2 =>
 if x2=true then(if(decide ((List.length v7+List.length ([((v0)[Int.toNat (IntKind.wrap .i64 (v1+1))]?.getD 0)]:List (UInt8)))*(1+1)<=limit))=true then(dT n v0 k (IntKind.wrap .i64 (v1+2)) (v7++([((v0)[Int.toNat (IntKind.wrap .i64 (v1+1))]?.getD 0)]:List (UInt8)))) else none)
 else(if((((v0)[Int.toNat (IntKind.wrap .i64 (v1+1))]?.getD 0).toNat:Int)==110)=true then(if(decide ((List.length v7+List.length ([10]:List (UInt8)))*(1+1)<=limit))=true then(dT n v0 k (IntKind.wrap .i64 (v1+2)) (v7++([10]:List (UInt8)))) else none)
 else(if((((v0)[Int.toNat (IntKind.wrap .i64 (v1+1))]?.getD 0).toNat:Int)==116)=true then(if(decide ((List.length v7+List.length ([9]:List (UInt8)))*(1+1)<=limit))=true then(dT n v0 k (IntKind.wrap .i64 (v1+2)) (v7++([9]:List (UInt8)))) else none)
 else(if((!((bif ((((v0)[Int.toNat (IntKind.wrap .i64 (v1+1))]?.getD 0).toNat:Int)==120) then(decide ((IntKind.wrap .i64 (v1+3))<(List.length v0:Int))) else false)==true)||decide (0<=(IntKind.wrap .i64 (v1+2))/\(IntKind.wrap .i64 (v1+2))<(List.length v0:Int))))=true then(aP (nQ (((v0)[Int.toNat (IntKind.wrap .i64 (v1+2))]?.getD 0).toNat:Int)) fun r6 =>
 if((!((bif (bif ((((v0)[Int.toNat (IntKind.wrap .i64 (v1+1))]?.getD 0).toNat:Int)==120) then(decide ((IntKind.wrap .i64 (v1+3))<(List.length v0:Int))) else false) then(decide (r6<16)) else false)==true)||decide (0<=(IntKind.wrap .i64 (v1+3))/\(IntKind.wrap .i64 (v1+3))<(List.length v0:Int))))=true then(aP (nQ (((v0)[Int.toNat (IntKind.wrap .i64 (v1+3))]?.getD 0).toNat:Int)) fun r7 =>
 aP ((bif (bif (bif ((((v0)[Int.toNat (IntKind.wrap .i64 (v1+1))]?.getD 0).toNat:Int)==120) then(decide ((IntKind.wrap .i64 (v1+3))<(List.length v0:Int))) else false) then(decide (r6<16)) else false) then(decide (r7<16)) else false):Bool) fun x8 =>
 if x8=true then(if(decide (0<=(IntKind.wrap .i64 (v1+2))/\(IntKind.wrap .i64 (v1+2))<(List.length v0:Int)))=true then(aP (nQ (((v0)[Int.toNat (IntKind.wrap .i64 (v1+2))]?.getD 0).toNat:Int)) fun r9 =>
 if(decide (0<=(IntKind.wrap .i64 (v1+3))/\(IntKind.wrap .i64 (v1+3))<(List.length v0:Int)))=true then(aP (nQ (((v0)[Int.toNat (IntKind.wrap .i64 (v1+3))]?.getD 0).toNat:Int)) fun r10 =>
 if(decide (0<=(IntKind.wrap .u8 ((IntKind.wrap .i64 ((IntKind.wrap .i64 (r9*16))+r10))))/\(IntKind.wrap .u8 ((IntKind.wrap .i64 ((IntKind.wrap .i64 (r9*16))+r10))))<256))=true then(if(decide ((List.length v7+List.length ([(UInt8.ofNat (Int.toNat (IntKind.wrap .u8 ((IntKind.wrap .i64 ((IntKind.wrap .i64 (r9*16))+r10))))))]:List (UInt8)))*(1+1)<=limit))=true then(aP ((v7++([(UInt8.ofNat (Int.toNat (IntKind.wrap .u8 ((IntKind.wrap .i64 ((IntKind.wrap .i64 (r9*16))+r10))))))]:List (UInt8))):List (UInt8)) fun x12 =>
 dT n v0 k (IntKind.wrap .i64 (v1+4)) x12) else none) else none) else none) else none)
 else(some (.inr ([],0,false)))) else none) else none)))) else none))))) else none)
 else(some (.inl ()))
def yk(n:Nat)(a0:Bs)(a1:Int):Option (Bs×Int×Bool) :=
 (dT n a0 n a1 ([]:List (UInt8))).bind fun o1 =>
 (Sum.elim (fun o1=>some ([],0,false)) (fun o1=>some (o1.1,o1.2.1,o1.2.2))) o1
def uy(n:Nat)(v0:Bs)(v1:Int)(v7:List (UInt8))(v21:Bool):Option (Sum (Int) (Bs×Int×Bool)) :=
 if v21=true then(if((!((decide ((IntKind.wrap .i64 (v1+1))>=(List.length v0:Int)))==false)||decide (0<=(IntKind.wrap .i64 (v1+1))/\(IntKind.wrap .i64 (v1+1))<(List.length v0:Int))))=true then(aP ((bif (decide ((IntKind.wrap .i64 (v1+1))>=(List.length v0:Int))) then true else((((v0)[Int.toNat (IntKind.wrap .i64 (v1+1))]?.getD 0).toNat:Int) != 39)):Bool) fun x1 =>
 if x1=true then(some (.inr (v7,(IntKind.wrap .i64 (v1+1)),true)))
 else(some (.inl (IntKind.wrap .i64 (v1+1))))) else none)
 else(some (.inl v1))
def ij(n:Nat)(v0:Bs):Nat->Int->(List (UInt8))->Option (Sum (Unit) (Bs×Int×Bool))
 |0,_,_=>none
 |k+1,v1,v7=>if(decide (v1<(List.length v0:Int)))=true then(if(decide (0<=v1/\v1<(List.length v0:Int)))=true then(if(!(pH (((v0)[Int.toNat v1]?.getD 0).toNat:Int)))=true then(some (.inr ([],0,false)))
 else(if(decide (0<=v1/\v1<(List.length v0:Int)))=true then((uy n v0 v1 v7 ((((v0)[Int.toNat v1]?.getD 0).toNat:Int)==39)).bind fun o1 =>
 (Sum.elim (fun o1=>if(decide (0<=o1/\o1<(List.length v0:Int)))=true then(if(decide ((List.length v7+List.length ([((v0)[Int.toNat o1]?.getD 0)]:List (UInt8)))*(1+1)<=limit))=true then(ij n v0 k (IntKind.wrap .i64 (o1+1)) (v7++([((v0)[Int.toNat o1]?.getD 0)]:List (UInt8)))) else none) else none) (fun o1=>some (.inr (o1.1,o1.2.1,o1.2.2)))) o1) else none)) else none)
 else(some (.inl ()))
def yd(n:Nat)(a0:Bs)(a1:Int):Option (Bs×Int×Bool) :=
 (ij n a0 n a1 ([]:List (UInt8))).bind fun o1 =>
 (Sum.elim (fun o1=>some ([],0,false)) (fun o1=>some (o1.1,o1.2.1,o1.2.2))) o1
def wM(n:Nat)(v0:Bs)(v1:Int)(v33:Bool):Option (Bs×Int×Bool) :=
 if v33=true then((yk n v0 (IntKind.wrap .i64 (v1+1))).bind fun r2 =>
 some (r2.1,r2.2.1,r2.2.2))
 else((yd n v0 (IntKind.wrap .i64 (v1+1))).bind fun r3 =>
 some (r3.1,r3.2.1,r3.2.2))
def j6(n:Nat)(a0:Bs)(a1:Int):Option (Bs×Int×Int) :=
 if((!((bif (decide (a1<0)) then true else(decide (a1>=(List.length a0:Int))))==false)||decide (0<=a1/\a1<(List.length a0:Int))))=true then(if((!((((((a0)[Int.toNat a1]?.getD 0).toNat:Int) != 34)==true)&&((bif (decide (a1<0)) then true else(decide (a1>=(List.length a0:Int))))==false))||decide (0<=a1/\a1<(List.length a0:Int))))=true then(aP ((bif (bif (decide (a1<0)) then true else(decide (a1>=(List.length a0:Int)))) then true else(bif ((((a0)[Int.toNat a1]?.getD 0).toNat:Int) != 34) then((((a0)[Int.toNat a1]?.getD 0).toNat:Int) != 39) else false)):Bool) fun x1 =>
 if x1=true then(some ([],0,2))
 else(if(decide (0<=a1/\a1<(List.length a0:Int)))=true then((wM n a0 a1 ((((a0)[Int.toNat a1]?.getD 0).toNat:Int)==34)).bind fun o2 =>
 if(!o2.2.2)=true then(some ([],0,3))
 else(some (o2.1,o2.2.1,0))) else none)) else none) else none
def kJ(n:Nat):Nat->Bs->Int->Option (Sum (Bs) (Bs×Bool))
 |0,_,_=>none
 |k+1,v0,v4=>if(decide (v4<(List.length v0:Int)))=true then((tC n v0 v4).bind fun r1 =>
 if(r1==2)=true then(if(decide (0<=v4/\v4<=(List.length v0:Int)))=true then(some (.inl (List.take (Int.toNat v4) v0))) else none)
 else(if(r1==1)=true then((j6 n v0 v4).bind fun r3 =>
 if(r3.2.2 != 0)=true then(some (.inr ([],false)))
 else(kJ n k v0 r3.2.1))
 else(if(decide (0<=v4/\v4<(List.length v0:Int)))=true then(if(!(pH (((v0)[Int.toNat v4]?.getD 0).toNat:Int)))=true then(some (.inr ([],false)))
 else(kJ n k v0 (IntKind.wrap .i64 (v4+1)))) else none)))
 else(some (.inl v0))
def po(n:Nat):Nat->Bs->Option (Bs)
 |0,_=>none
 |k+1,v0=>if((!((decide ((List.length v0:Int)>0))==true)||decide (0<=(IntKind.wrap .i64 ((List.length v0:Int)-1))/\(IntKind.wrap .i64 ((List.length v0:Int)-1))<(List.length v0:Int))))=true then(aP ((bif (decide ((List.length v0:Int)>0)) then((((v0)[Int.toNat (IntKind.wrap .i64 ((List.length v0:Int)-1))]?.getD 0).toNat:Int)==32) else false):Bool) fun x2 =>
 if x2=true then(if(decide (0<=(IntKind.wrap .i64 ((List.length v0:Int)-1))/\(IntKind.wrap .i64 ((List.length v0:Int)-1))<=(List.length v0:Int)))=true then(po n k (List.take (Int.toNat (IntKind.wrap .i64 ((List.length v0:Int)-1))) v0)) else none)
 else some v0) else none
def wZ(n:Nat)(a0:Bs):Option (Bs×Bool) :=
 (kJ n n a0 0).bind fun o1 =>
 (Sum.elim (fun o1=>(po n n o1).bind fun o2 =>
 some (o2,true)) (fun o1=>some (o1.1,o1.2))) o1
def kQ(n:Nat)(v0:Bs)(v5:List (av))(v6:Int):Nat->Int->Option (Int)
 |0,_=>none
 |k+1,v7=>if((!((decide (v7<(List.length v0:Int)))==true)||decide (0<=v7/\v7<(List.length v0:Int))))=true then(if(bif (decide (v7<(List.length v0:Int))) then((((v0)[Int.toNat v7]?.getD 0).toNat:Int) != 10) else false)=true then(kQ n v0 v5 v6 k (IntKind.wrap .i64 (v7+1)))
 else some v7) else none
def pV(n:Nat)(v0:Bs)(v5:List (av))(v6:Int)(v7:Int)(v8:Bs)(v39:Bool):Option (Bs) :=
 if v39=true then(if(decide (0<=(IntKind.wrap .i64 (v7+1))/\(IntKind.wrap .i64 (v7+1))<=(List.length v0:Int)))=true then(some (List.drop (Int.toNat (IntKind.wrap .i64 (v7+1))) v0)) else none)
 else(some [])
def kV(n:Nat)(v0:Bs)(v5:List (av))(v6:Int)(v8:Bs):Nat->Int->Option (Int)
 |0,_=>none
 |k+1,v9=>if((!((decide (v9<(List.length v8:Int)))==true)||decide (0<=v9/\v9<(List.length v8:Int))))=true then(if(bif (decide (v9<(List.length v8:Int))) then((((v8)[Int.toNat v9]?.getD 0).toNat:Int)==32) else false)=true then(kV n v0 v5 v6 v8 k (IntKind.wrap .i64 (v9+1)))
 else some v9) else none
def nC(n:Nat):Nat->Bs->(List (av))->Int->Option (Sum ((List (av))) (Int×Int))
 |0,_,_,_=>none
 |k+1,v0,v5,v6=>if(decide ((List.length v0:Int)>0))=true then((kQ n v0 v5 (IntKind.wrap .i64 (v6+1)) n 0).bind fun o1 =>
 if(decide (0<=o1/\o1<=(List.length v0:Int)))=true then((pV n v0 v5 (IntKind.wrap .i64 (v6+1)) o1 (List.take (Int.toNat o1) v0) (decide (o1<(List.length v0:Int)))).bind fun o2 =>
 (kV n o2 v5 (IntKind.wrap .i64 (v6+1)) (List.take (Int.toNat o1) v0) n 0).bind fun o3 =>
 if(decide (0<=o3/\o3<=(List.length (List.take (Int.toNat o1) v0):Int)))=true then((wZ n (List.drop (Int.toNat o3) (List.take (Int.toNat o1) v0))).bind fun r4 =>
 aP ((bif (!r4.2) then true else(bif (o3==0) then(bif (r4.1==[45,45,45]) then true else(r4.1==[46,46,46])) else false)):Bool) fun x5 =>
 if x5=true then(some (.inr ((IntKind.wrap .i64 (v6+1)),3)))
 else(if(decide ((List.length r4.1:Int)>0))=true then(if(decide ((List.length v5+List.length ([(av.mk (IntKind.wrap .i64 (v6+1)) o3 r4.1)]:List (av)))*(32+1)<=limit))=true then(nC n k o2 (v5++([(av.mk (IntKind.wrap .i64 (v6+1)) o3 r4.1)]:List (av))) (IntKind.wrap .i64 (v6+1))) else none)
 else(nC n k o2 v5 (IntKind.wrap .i64 (v6+1))))) else none) else none)
 else(some (.inl v5))
structure Qb where
 f_N:af
 Sz:Int
 eG:Int
 f_E:Int
end Go.Proofs.YtefojkdckfidcaaGreatDoor.M
namespace Go.Proofs.YtefojkdckfidcaaGreatDoor.M
open Go.RowKit Go.Proofs.YtefojkdckfidcaaGreatDoor.RX
set_option maxRecDepth 100000
def pI(n:Nat)(v0:Int)(v1:Bs):Nat->Int->Option (Sum (Unit) (Bool))
 |0,_=>none
 |k+1,v5=>if(decide (v5<(List.length v1:Int)))=true then(if(decide (0<=v5/\v5<(List.length v1:Int)))=true then(if((((v1)[Int.toNat v5]?.getD 0).toNat:Int)==v0)=true then(some (.inr true))
 else(pI n v0 v1 k (IntKind.wrap .i64 (v5+1)))) else none)
 else(some (.inl ()))
def qQ(n:Nat)(a0:Int)(a1:Bs):Option (Bool) :=
 (pI n a0 a1 n 0).bind fun o1 =>
 (Sum.elim (fun o1=>some false) (fun o1=>some o1)) o1
def kP(n:Nat)(v0:Bs)(v3:Int):Nat->Int->Option (Sum (Unit) (Bool))
 |0,_=>none
 |k+1,v4=>if(decide (v4<v3))=true then(if(decide (0<=v4/\v4<(List.length v0:Int)))=true then(if(!(pH (((v0)[Int.toNat v4]?.getD 0).toNat:Int)))=true then(some (.inr false))
 else(if(decide (0<=v4/\v4<(List.length v0:Int)))=true then(if((!(((v4==(IntKind.wrap .i64 (v3-1)))==false)&&(((((v0)[Int.toNat v4]?.getD 0).toNat:Int)==58)==true))||decide (0<=(IntKind.wrap .i64 (v4+1))/\(IntKind.wrap .i64 (v4+1))<(List.length v0:Int))))=true then(aP ((bif ((((v0)[Int.toNat v4]?.getD 0).toNat:Int)==58) then(bif (v4==(IntKind.wrap .i64 (v3-1))) then true else((((v0)[Int.toNat (IntKind.wrap .i64 (v4+1))]?.getD 0).toNat:Int)==32)) else false):Bool) fun x4 =>
 if x4=true then(some (.inr false))
 else(if(decide (0<=v4/\v4<(List.length v0:Int)))=true then(if((!((bif ((((v0)[Int.toNat v4]?.getD 0).toNat:Int)==35) then(decide (v4>0)) else false)==true)||decide (0<=(IntKind.wrap .i64 (v4-1))/\(IntKind.wrap .i64 (v4-1))<(List.length v0:Int))))=true then(aP ((bif (bif ((((v0)[Int.toNat v4]?.getD 0).toNat:Int)==35) then(decide (v4>0)) else false) then((((v0)[Int.toNat (IntKind.wrap .i64 (v4-1))]?.getD 0).toNat:Int)==32) else false):Bool) fun x5 =>
 if x5=true then(some (.inr false))
 else(kP n v0 v3 k (IntKind.wrap .i64 (v4+1)))) else none) else none)) else none) else none)) else none)
 else(some (.inl ()))
def nR(n:Nat)(a0:Bs):Option (Bool) :=
 if((!((bif (bif ((List.length a0:Int)==0) then true else(a0==[126])) then true else(a0==rG))==false)||decide (0<=(0:Int)/\(0:Int)<(List.length a0:Int))))=true then(if((!((bif (bif (bif ((List.length a0:Int)==0) then true else(a0==[126])) then true else(a0==rG)) then true else((((a0)[Int.toNat 0]?.getD 0).toNat:Int)==32))==false)||decide (0<=(IntKind.wrap .i64 ((List.length a0:Int)-1))/\(IntKind.wrap .i64 ((List.length a0:Int)-1))<(List.length a0:Int))))=true then(aP ((bif (bif (bif (bif ((List.length a0:Int)==0) then true else(a0==[126])) then true else(a0==rG)) then true else((((a0)[Int.toNat 0]?.getD 0).toNat:Int)==32)) then true else((((a0)[Int.toNat (IntKind.wrap .i64 ((List.length a0:Int)-1))]?.getD 0).toNat:Int)==32)):Bool) fun x1 =>
 if x1=true then some false
 else(if(decide (0<=(0:Int)/\(0:Int)<(List.length a0:Int)))=true then((qQ n (((a0)[Int.toNat 0]?.getD 0).toNat:Int) JU).bind fun r2 =>
 if r2=true then some false
 else(if(decide (0<=(0:Int)/\(0:Int)<(List.length a0:Int)))=true then(if((!((((List.length a0:Int)==1)==false)&&(((((a0)[Int.toNat 0]?.getD 0).toNat:Int)==45)==true))||decide (0<=(1:Int)/\(1:Int)<(List.length a0:Int))))=true then(aP ((bif ((((a0)[Int.toNat 0]?.getD 0).toNat:Int)==45) then(bif ((List.length a0:Int)==1) then true else((((a0)[Int.toNat 1]?.getD 0).toNat:Int)==32)) else false):Bool) fun x3 =>
 if x3=true then some false
 else((kP n a0 (List.length a0:Int) n 0).bind fun o4 =>
 (Sum.elim (fun o4=>some true) (fun o4=>some o4)) o4)) else none) else none)) else none)) else none) else none
def lW(n:Nat)(v0:Ls)(v1:Bs):Nat->Int->Option (Sum (Unit) (Bool))
 |0,_=>none
 |k+1,v5=>if(decide (v5<(List.length v0:Int)))=true then(if(decide (0<=v5/\v5<(List.length v0:Int)))=true then(if(((v0)[Int.toNat v5]?.getD [])==v1)=true then(some (.inr true))
 else(lW n v0 v1 k (IntKind.wrap .i64 (v5+1)))) else none)
 else(some (.inl ()))
def zL(n:Nat)(a0:Ls)(a1:Bs):Option (Bool) :=
 (lW n a0 a1 n 0).bind fun o1 =>
 (Sum.elim (fun o1=>some false) (fun o1=>some o1)) o1
def mB(n:Nat)(v0:Bs):Nat->Int->Option (Int)
 |0,_=>none
 |k+1,v1=>if((!((decide (v1<(List.length v0:Int)))==true)||decide (0<=v1/\v1<(List.length v0:Int))))=true then(if(bif (decide (v1<(List.length v0:Int))) then((((v0)[Int.toNat v1]?.getD 0).toNat:Int)==32) else false)=true then(mB n v0 k (IntKind.wrap .i64 (v1+1)))
 else some v1) else none
def gu(n:Nat)(a0:Bs)(a1:Int):Option (Int) :=
 (mB n a0 n a1).bind fun o1 =>
 some o1
def iF(n:Nat)(a0:Bs)(a1:Int)(a2:Int):Option (Bool) :=
 if((!((decide (a1<(List.length a0:Int)))==true)||decide (0<=a1/\a1<(List.length a0:Int))))=true then(some (bif (decide (a1<(List.length a0:Int))) then((((a0)[Int.toNat a1]?.getD 0).toNat:Int)==a2) else false)) else none
def pw(R_ref09_value:Bs->Int->Option (af×Int))(n:Nat)(v0:Bs):Nat->Int->af->af->Option (Int×af)
 |0,_,_,_=>none
 |k+1,v1,b4,b6=>(gu n v0 v1).bind fun r3 =>
 (R_ref09_value v0 r3).bind fun r4 =>
 if(decide (r4.2<=r3))=true then(some ((-1),b6))
 else(if(decide ((List.length b6.aj+List.length ([r4.1]:List (af)))*(72+1)<=limit))=true then((gu n v0 r4.2).bind fun r5 =>
 (iF n v0 r5 93).bind fun r6 =>
 if r6=true then(some ((IntKind.wrap .i64 (r5+1)),(af.mk b6.aF b6.au b6.aA (b6.aj++([r4.1]:List (af))))))
 else((iF n v0 r5 44).bind fun r7 =>
 if(!r7)=true then(some ((-1),(af.mk b6.aF b6.au b6.aA (b6.aj++([r4.1]:List (af))))))
 else(pw R_ref09_value n v0 k (IntKind.wrap .i64 (r5+1)) b4 (af.mk b6.aF b6.au b6.aA (b6.aj++([r4.1]:List (af))))))) else none)
def ux(R_ref09_value:Bs->Int->Option (af×Int))(n:Nat)(a0:Bs)(a1:Int):Option (af×Int) :=
 (gu n a0 a1).bind fun r1 =>
 (iF n a0 r1 93).bind fun r2 =>
 if r2=true then(some ((af.mk 2 [] [] []),(IntKind.wrap .i64 (r1+1))))
 else((pw R_ref09_value n a0 n r1 (af.mk 0 [] [] []) (af.mk 2 [] [] [])).bind fun o3 =>
 some (o3.2,o3.1))
def vT(a0:Int):Bool :=
 aP ((bif (bif (bif (bif (a0==44) then true else(a0==91)) then true else(a0==93)) then true else(a0==123)) then true else(a0==125)):Bool) fun x1 =>
 x1
def kU(n:Nat)(v0:Bs):Nat->Int->Option (Sum (Int) (Int))
 |0,_=>none
 |k+1,v1=>if(decide (v1<(List.length v0:Int)))=true then(if(decide (0<=v1/\v1<(List.length v0:Int)))=true then(if(vT (((v0)[Int.toNat v1]?.getD 0).toNat:Int))=true then(some (.inr v1))
 else(if(decide (0<=v1/\v1<(List.length v0:Int)))=true then(if((!((((IntKind.wrap .i64 (v1+1))==(List.length v0:Int))==false)&&(((((v0)[Int.toNat v1]?.getD 0).toNat:Int)==58)==true))||decide (0<=(IntKind.wrap .i64 (v1+1))/\(IntKind.wrap .i64 (v1+1))<(List.length v0:Int))))=true then(if((!(((bif ((IntKind.wrap .i64 (v1+1))==(List.length v0:Int)) then true else((((v0)[Int.toNat (IntKind.wrap .i64 (v1+1))]?.getD 0).toNat:Int)==32))==false)&&(((((v0)[Int.toNat v1]?.getD 0).toNat:Int)==58)==true))||decide (0<=(IntKind.wrap .i64 (v1+1))/\(IntKind.wrap .i64 (v1+1))<(List.length v0:Int))))=true then(aP (vT (((v0)[Int.toNat (IntKind.wrap .i64 (v1+1))]?.getD 0).toNat:Int)) fun r1 =>
 aP ((bif ((((v0)[Int.toNat v1]?.getD 0).toNat:Int)==58) then(bif (bif ((IntKind.wrap .i64 (v1+1))==(List.length v0:Int)) then true else((((v0)[Int.toNat (IntKind.wrap .i64 (v1+1))]?.getD 0).toNat:Int)==32)) then true else r1) else false):Bool) fun x2 =>
 if x2=true then(some (.inr v1))
 else(kU n v0 k (IntKind.wrap .i64 (v1+1)))) else none) else none) else none)) else none)
 else(some (.inl v1))
def qG(n:Nat)(a0:Bs)(a1:Int):Option (Int) :=
 (kU n a0 n a1).bind fun o1 =>
 (Sum.elim (fun o1=>some o1) (fun o1=>some o1)) o1
def lI(n:Nat):Nat->Bs->Option (Bs)
 |0,_=>none
 |k+1,v0=>if((!((decide ((List.length v0:Int)>0))==true)||decide (0<=(IntKind.wrap .i64 ((List.length v0:Int)-1))/\(IntKind.wrap .i64 ((List.length v0:Int)-1))<(List.length v0:Int))))=true then(aP ((bif (decide ((List.length v0:Int)>0)) then((((v0)[Int.toNat (IntKind.wrap .i64 ((List.length v0:Int)-1))]?.getD 0).toNat:Int)==32) else false):Bool) fun x1 =>
 if x1=true then(if(decide (0<=(IntKind.wrap .i64 ((List.length v0:Int)-1))/\(IntKind.wrap .i64 ((List.length v0:Int)-1))<=(List.length v0:Int)))=true then(lI n k (List.take (Int.toNat (IntKind.wrap .i64 ((List.length v0:Int)-1))) v0)) else none)
 else some v0) else none
def oa(n:Nat)(a0:Bs):Option (Bs) :=
 (lI n n a0).bind fun o1 =>
 some o1
def oY(n:Nat)(v0:Bs):Nat->Int->Option (Sum (Unit) (Bool))
 |0,_=>none
 |k+1,v3=>if(decide (v3<(List.length v0:Int)))=true then(if(decide (0<=v3/\v3<(List.length v0:Int)))=true then((qQ n (((v0)[Int.toNat v3]?.getD 0).toNat:Int) [44,91,93,123,125]).bind fun r1 =>
 if r1=true then(some (.inr false))
 else(oY n v0 k (IntKind.wrap .i64 (v3+1)))) else none)
 else(some (.inl ()))
def qT(n:Nat)(a0:Bs):Option (Bool) :=
 (oY n a0 n 0).bind fun o1 =>
 (Sum.elim (fun o1=>(nR n a0).bind fun r2 =>
 some r2) (fun o1=>some o1)) o1
def xQ(n:Nat)(a0:Bs)(a1:Int):Option (Bs×Int) :=
 (gu n a0 a1).bind fun r1 =>
 (iF n a0 r1 34).bind fun r2 =>
 ((if(r2==false)=true then iF n a0 r1 39 else some false)).bind fun r3 =>
 if(bif r2 then true else r3)=true then((j6 n a0 r1).bind fun r4 =>
 if(r4.2.2 != 0)=true then(some ([],(-1)))
 else((gu n a0 r4.2.1).bind fun r5 =>
 (iF n a0 r5 58).bind fun r6 =>
 if(!r6)=true then(some ([],(-1)))
 else(some (r4.1,(IntKind.wrap .i64 (r5+1))))))
 else((qG n a0 r1).bind fun r7 =>
 if(decide (0<=r7/\r7<=(List.length a0:Int)))=true then(if(decide (0<=r1/\r1<=r7))=true then((oa n (List.take (Int.toNat r7-Int.toNat r1) (List.drop (Int.toNat r1) a0))).bind fun r8 =>
 (qT n r8).bind fun r9 =>
 ((if((!r9)==false)=true then iF n a0 r7 58 else some false)).bind fun r10 =>
 if(bif (!r9) then true else(!r10))=true then(some ([],(-1)))
 else(some (r8,(IntKind.wrap .i64 (r7+1))))) else none) else none)
def ng(R_ref09_value:Bs->Int->Option (af×Int))(n:Nat)(v0:Bs):Nat->Int->af->af->Option (Int×af)
 |0,_,_,_=>none
 |k+1,v1,b4,b6=>(xQ n v0 v1).bind fun r3 =>
 ((if((decide (r3.2<0))==false)=true then zL n b6.aA r3.1 else some false)).bind fun r4 =>
 if(bif (decide (r3.2<0)) then true else r4)=true then(some ((-1),b6))
 else((R_ref09_value v0 r3.2).bind fun r5 =>
 if(decide (r5.2<0))=true then(some ((-1),b6))
 else(if(decide ((List.length b6.aA+List.length ([r3.1]:Ls))*(16+1)<=limit))=true then(if(decide ((List.length b6.aj+List.length ([r5.1]:List (af)))*(72+1)<=limit))=true then((gu n v0 r5.2).bind fun r6 =>
 (iF n v0 r6 125).bind fun r7 =>
 if r7=true then(some ((IntKind.wrap .i64 (r6+1)),(af.mk b6.aF b6.au (b6.aA++([r3.1]:Ls)) (b6.aj++([r5.1]:List (af))))))
 else((iF n v0 r6 44).bind fun r8 =>
 if(!r8)=true then(some ((-1),(af.mk b6.aF b6.au (b6.aA++([r3.1]:Ls)) (b6.aj++([r5.1]:List (af))))))
 else(ng R_ref09_value n v0 k (IntKind.wrap .i64 (r6+1)) b4 (af.mk b6.aF b6.au (b6.aA++([r3.1]:Ls)) (b6.aj++([r5.1]:List (af))))))) else none) else none))
def qw(R_ref09_value:Bs->Int->Option (af×Int))(n:Nat)(a0:Bs)(a1:Int):Option (af×Int) :=
 (gu n a0 a1).bind fun r1 =>
 (iF n a0 r1 125).bind fun r2 =>
 if r2=true then(some ((af.mk 3 [] [] []),(IntKind.wrap .i64 (r1+1))))
 else((ng R_ref09_value n a0 n r1 (af.mk 0 [] [] []) (af.mk 3 [] [] [])).bind fun o3 =>
 some (o3.2,o3.1))
def tJ(n:Nat)(a0:Bs)(a1:Bool):Option (af×Bool) :=
 if(bif (bif (a0==[]) then true else(a0==[126])) then true else(a0==rG))=true then(some ((af.mk 0 [] [] []),true))
 else((j6 n a0 0).bind fun r1 =>
 if(bif (r1.2.2==0) then(r1.2.1==(List.length a0:Int)) else false)=true then(some ((af.mk 1 r1.1 [] []),true))
 else(((if(a1==true)=true then qT n a0 else some false)).bind fun r2 =>
 ((if(((!a1)==true)&&((bif a1 then r2 else false)==false))=true then nR n a0 else some false)).bind fun r3 =>
 if(bif (bif a1 then r2 else false) then true else(bif (!a1) then r3 else false))=true then(some ((af.mk 1 a0 [] []),true))
 else(some ((af.mk 0 [] [] []),false))))
end Go.Proofs.YtefojkdckfidcaaGreatDoor.M
namespace Go.Proofs.YtefojkdckfidcaaGreatDoor.M
open Go.RowKit Go.Proofs.YtefojkdckfidcaaGreatDoor.RX
set_option maxRecDepth 100000
def rM(R_ref09_value:Bs->Int->Option (af×Int))(n:Nat)(a0:Bs)(a1:Int):Option (af×Int) :=
 (gu n a0 a1).bind fun r1 =>
 if(r1==(List.length a0:Int))=true then(some ((af.mk 0 [] [] []),r1))
 else(if(decide (0<=r1/\r1<(List.length a0:Int)))=true then(if((((a0)[Int.toNat r1]?.getD 0).toNat:Int)==91)=true then((ux R_ref09_value n a0 (IntKind.wrap .i64 (r1+1))).bind fun r2 =>
 some (r2.1,r2.2))
 else(if(decide (0<=r1/\r1<(List.length a0:Int)))=true then(if((((a0)[Int.toNat r1]?.getD 0).toNat:Int)==123)=true then((qw R_ref09_value n a0 (IntKind.wrap .i64 (r1+1))).bind fun r3 =>
 some (r3.1,r3.2))
 else(if(decide (0<=r1/\r1<(List.length a0:Int)))=true then(if((!(((((a0)[Int.toNat r1]?.getD 0).toNat:Int)==34)==false)||decide (0<=r1/\r1<(List.length a0:Int))))=true then(aP ((bif ((((a0)[Int.toNat r1]?.getD 0).toNat:Int)==34) then true else((((a0)[Int.toNat r1]?.getD 0).toNat:Int)==39)):Bool) fun x4 =>
 if x4=true then((j6 n a0 r1).bind fun r5 =>
 if(r5.2.2 != 0)=true then(some ((af.mk 0 [] [] []),(-1)))
 else(some ((af.mk 1 r5.1 [] []),r5.2.1)))
 else((qG n a0 r1).bind fun r6 =>
 if(decide (0<=r6/\r6<=(List.length a0:Int)))=true then(if(decide (0<=r1/\r1<=r6))=true then((oa n (List.take (Int.toNat r6-Int.toNat r1) (List.drop (Int.toNat r1) a0))).bind fun r7 =>
 (tJ n r7 true).bind fun r8 =>
 if(!r8.2)=true then(some ((af.mk 0 [] [] []),(-1)))
 else(some (r8.1,r6))) else none) else none)) else none) else none)) else none)) else none)
def jO:Nat->Bs->Int->Option (af×Int)
 |0=>fun _ _=>none
 |n+1=>rM (jO n) n
def uP(n:Nat)(a0:af):Option (Bool) :=
 (fB n a0 1 2000).bind fun r1 =>
 some (decide (r1>=0))
def yZ(n:Nat)(a0:Bs):Option (af×Int) :=
 (jO n a0 0).bind fun r1 =>
 ((if((decide (r1.2<0))==false)=true then gu n a0 r1.2 else some 0)).bind fun r2 =>
 if(bif (decide (r1.2<0)) then true else(decide (r2<(List.length a0:Int))))=true then(some ((af.mk 0 [] [] []),3))
 else((uP n r1.1).bind fun r3 =>
 if(!r3)=true then(some ((af.mk 0 [] [] []),9))
 else(some (r1.1,0)))
theorem xd:AV Tryz.prog 9 (fun l:Bs=>l.length<=maxLen) (fun l=>[.str l]):=KQ (by kernel_rfl)
def MU(l:Ls):Prop:=l.length<=maxLen/\∀x∈l,(List.length x<=maxLen)
inductive Av:af->Prop
 |mk (x:af) (h:(IntKind.min .i64<=x.aF/\x.aF<=IntKind.max .i64)/\(List.length x.au<=maxLen)/\(MU x.aA)) (hl:x.aj.length<=maxLen) (hk:∀y∈x.aj,Av y):Av x
end Go.Proofs.YtefojkdckfidcaaGreatDoor.M
