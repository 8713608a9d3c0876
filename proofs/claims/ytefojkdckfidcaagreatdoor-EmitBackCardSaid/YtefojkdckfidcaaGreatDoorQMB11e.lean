import Derived.Test.YtefojkdckfidcaaGreatDoorQPlain
set_option linter.all false
namespace Go.Proofs.YtefojkdckfidcaaGreatDoor.M
open Go.RowKit Go.Proofs.YtefojkdckfidcaaGreatDoor.RX
set_option maxRecDepth 100000
def gx(n:Nat):Ls->Bs->Option (Bs)
 |[],b1000000=>some b1000000
 |x::r,b1000000=>if(decide ((List.length b1000000+List.length x)*(1+1)<=limit))=true then(if(decide ((List.length (b1000000++x)+1)*(1+1)<=limit))=true then(gx n r ((b1000000++x)++[10])) else none) else none
theorem zF(n:Nat)(x:Bs)(r:Ls)(b1000000:Bs)(o:Bs)(h:gx n (x::r) b1000000=some o){F0:Fz}{w0:Pt Tryz.prog}{Lx:aA}:Wp Tryz.prog 34 F0 w0 [(3,.own 1000000 0),(4,.str x)] [(504001,5,[rc8 b1000000]),(1000000,68,[.opt 1000000,.bn 504001])] (cRB (cI (cB (cA (cB (cB (cB (cF Tryz.f18)))))))) (oI F0 w0 (fun(s:Bs)=>gx n r s=some o) (fun(s:Bs)=>[(504001,5,[rc8 s]),(1000000,68,[.opt 1000000,.bn 504001])]) none Lx):=by
 rw[gx] at h
 refine Wp.block (Wp.seq ?_)
 obtain⟨u3,h⟩:=aL h
 refine rb [] 1 ⟨[(1000000,1000000),(1000001,504001)],[(1000000,1000000),(1,504001)],[.own 1000000 0,.str x],[(1000000,68,[.opt 1000000,.bn 1000001]),(1000001,5,[rc8 b1000000])],.tup [vi (List.length x:Int),.val (.nilIface)],[(1000000,68,[.opt 1000000,.bn 1]),(1,5,[rc8 (b1000000++x)])]⟩ [3] [504001,1000000] [(3,.own 1000000 0)] [(504001,5,[rc8 (b1000000++x)]),(1000000,68,[.opt 1000000,.bn 504001])] (writeString (l:=b1000000) (s:=x) u3) (To.ah ?_)
 obtain⟨u4,h⟩:=aL h
 refine rb [] 0 ⟨[(1000000,1000000),(1000001,504001)],[(1000000,1000000),(1,504001)],[.own 1000000 0,.val (.int .u8 10)],[(1000000,68,[.opt 1000000,.bn 1000001]),(1000001,5,[rc8 (b1000000++x)])],.val (.nilIface),[(1000000,68,[.opt 1000000,.bn 1]),(1,5,[rc8 ((b1000000++x)++[10])])]⟩ [3] [504001,1000000] [(3,.own 1000000 0)] [(504001,5,[rc8 ((b1000000++x)++[10])]),(1000000,68,[.opt 1000000,.bn 504001])] (JX (l:=(b1000000++x)) (x:=10) rfl u4) (To.bf ?_)
 exact To.round ((b1000000++x)++[10]) [504001,1000000] h (by kernel_rfl)
def lF(n:Nat)(a0:af):Option (Bs) :=
 if(a0.aG==0)=true then(some [])
 else(if(bif (a0.aG==1) then(bif (a0.av==[45,45,45]) then true else(a0.av==[46,46,46])) else false)=true then((jq n a0.av).bind fun r1 =>
 if(decide (((List.length r1+List.length ([10]:Bs):Nat):Int)<=9223372036854775807))=true then(some (r1++[10])) else none)
 else((ui n a0).bind fun xs3 =>
 (gx n xs3 ([]:List (UInt8))).bind fun o4 =>
 some o4))
theorem wK(n:Nat)(a0:af)(r:Bs)(h:lF n a0=some r):bg Tryz.prog 18 [.agg (qc6 a0)] (.str r):=by
 unfold lF at h
 refine AB (fn:=Tryz.f18) (by kernel_rfl) rfl (by kernel_rfl) (Nat.le_of_ble_eq_true (by kernel_rfl)) fun F0 w0 _=>?_
 refine kw [0] [] [(0,.agg (qc6 a0))] [] (Wp.seq (rg [1] [1] [(1,.own 1 0)] [(1,26,qc6 a0)] (To.ah (Wp.seq (Wp.block (Wp.seq (rg [1,5] [1] [(1,.own 1 0),(5,vb (a0.aG==0))] [(1,26,qc6 a0)] (To.ah (cn h (fun h=>?_) (fun h=>?_))))))))))
 ·refine Wp.seq (rg [2] [] [(2,.str [])] [] (To.ah (Wp.ret (To.aU (To.aO ?_)))))
  cases h
  first|exact To.Aq hΓ hA (by kernel_rfl) (by kernel_rfl)|exact To.wY hΓ (by kernel_rfl)
 ·refine Wp.seq (rg [1,9] [1] [(1,.own 1 0),(9,vb (bif (a0.aG==1) then(bif (a0.av==[45,45,45]) then true else(a0.av==[46,46,46])) else false))] [(1,26,qc6 a0)] (To.ah (cn h (fun h=>?_) (fun h=>?_))))
  ·refine Wp.seq ?_
   obtain⟨r1,hr1,h⟩:=aF h
   obtain⟨hc2,h⟩:=aL h
   refine rr [] [(2,.str r1)] [] [2] [] [(2,.str (r1++[10]))] [] [_,_] (au.cons (c1 (mB n a0.av _ hr1)) (au.cons hc2 au.nil)) (To.ah (Wp.ret (To.aU (To.aO ?_))))
   cases h
   first|exact To.Aq hΓ hA (by kernel_rfl) (by kernel_rfl)|exact To.wY hΓ (by kernel_rfl)
  ·refine Wp.skip (To.bf (To.ah (Wp.seq (rg [1,3] [1,3] [(1,.own 1 0),(3,.own 3 0)] [(1,26,qc6 a0),(3,68,[.val (.pointer none),.val (.slice none 0 0)])] (To.pre (St.NC 3 4181 5 (by decide) (by kernel_rfl) (L':=[(1,26,qc6 a0),(3,68,[.opt 3,.bn 4181])]) (by kernel_rfl)) (To.ah (Wp.seq (Wp.seq (rr [] [(1,.fn 78 [.el (qc6 a0)])] [] [3,28] [3,4181] [(3,.own 3 0),(28,.fn 78 [.el (qc6 a0)])] [(3,68,[.opt 3,.bn 4181]),(4181,5,[rc8 []])] [(true=true->CX Tryz.prog 43 [.agg (qc6 a0)] (.fn 78 [.el (qc6 a0)]))] (au.cons (fun _=>cx (zq a0)) au.nil) (To.ah (Wp.block ?_)))))))))))
   obtain⟨xs3,hxs3,h⟩:=aF h
   obtain⟨o4,ho4,h⟩:=aF h
   refine kw [3,28] [3,4181] [(3,.own 3 0),(28,.fn 78 [.el (qc6 a0)])] [(3,68,[.opt 3,.bn 4181]),(4181,5,[rc8 []])] (Wp.FM (σ:=Bs) (encs:=kM) (xs:=xs3) ⟨[(1000000,3),(1000001,4181)],[(1000000,3),(504001,4181)],[],[(1000000,68,[.opt 1000000,.bn 1000001]),(1000001,5,[rc8 []])],.hole,[(504001,5,[rc8 o4]),(1000000,68,[.opt 1000000,.bn 504001])]⟩ (fun r (s:Bs)=>gx n r s=some o4) (fun(s:Bs)=>[(504001,5,[rc8 s]),(1000000,68,[.opt 1000000,.bn 504001])]) none [3] [3] [(3,.own 1000000 0)] [(3,.own 3 0)] [(4181,5,[rc8 o4]),(3,68,[.opt 3,.bn 4181])] ([]:List (UInt8)) (fun x (s:Bs)=>[(3,.own 1000000 0),(4,.str x)]) (fun x (s:Bs)=>[(504001,5,[rc8 s]),(1000000,68,[.opt 1000000,.bn 504001])]) rfl (by kernel_rfl) (by kernel_rfl) (D4 n a0 xs3 hxs3) (by kernel_rfl) (by kernel_rfl) (fun s=>by kernel_rfl) (by kernel_rfl) (by kernel_rfl) (by kernel_rfl) ho4 (fun F1 w1 a w h=>St.reL [504001,1000000] (by kernel_rfl) a w (St.restart (L':=[(1000000,68,[.opt 1000000,.bn 504001]),(504001,5,[rc8 []])]) 1000001 504001 (by decide) (by kernel_rfl) (by kernel_rfl) a w (h))) (fun x=>rfl) (by decide) (by decide) (fun x=>by kernel_rfl) (by kernel_rfl) (by kernel_rfl) (fun x s=>by kernel_rfl) (fun s h=>⟨rfl,by rw[gx] at h;cases h;rfl⟩) (by kernel_rfl) (by kernel_rfl) (fun x r s h F1 w1=>?_) (fun x r s h F1 w1=>zF n x r s _ h) (fun F1 w1 hA=>?_))
   ·refine rg [3,4] [504001,1000000] [(3,.own 1000000 0),(4,.str x)] [(504001,5,[rc8 s]),(1000000,68,[.opt 1000000,.bn 504001])] (kt [3,4] [504001,1000000] [(3,.own 1000000 0),(4,.str x)] [(504001,5,[rc8 s]),(1000000,68,[.opt 1000000,.bn 504001])] ?_)
    exact fun a w h=>⟨rfl,h⟩
   ·refine To.bf (To.ah (Wp.seq (rb [] 0 ⟨[(1000000,3),(1000001,4181)],[(1000000,3)],[.own 1000000 0],[(1000000,68,[.opt 1000000,.bn 1000001]),(1000001,5,[rc8 o4])],.str o4,[(1000000,68,[.opt 1000000,.hole])]⟩ [2] [] [(2,.str o4)] [] (PS (l:=o4)) (To.ah (Wp.ret ?_)))))
    cases h
    first|exact To.Aq hΓ hA (by kernel_rfl) (by kernel_rfl)|exact To.wY hΓ (by kernel_rfl)
def jE(n:Nat):Ls->Int->Option (Int)
 |[],b1000000=>some b1000000
 |x::r,b1000000=>jE n r (IntKind.wrap .i64 (b1000000+1))
theorem zL(n:Nat)(x:Bs)(r:Ls)(b1000000:Int)(o:Int)(h:jE n (x::r) b1000000=some o){F0:Fz}{w0:Pt Tryz.prog}{Lx:aA}:Wp Tryz.prog 13 F0 w0 [(3,.own 1000000 0)] [(1000000,3,[vi b1000000])] (cRB (cI (cB (cA (cB (cB (cB (cF Tryz.f20)))))))) (oI F0 w0 (fun(s:Int)=>jE n r s=some o) (fun(s:Int)=>[(1000000,3,[vi s])]) none Lx):=by
 rw[jE] at h
 refine Wp.block (rg [3] [1000000] [(3,.own 1000000 0)] [(1000000,3,[vi (IntKind.wrap .i64 (b1000000+1))])] (To.bf ?_))
 exact To.round (IntKind.wrap .i64 (b1000000+1)) [1000000] h (by kernel_rfl)
def rY(n:Nat)(a0:af):Option (Int) :=
 if(a0.aG==0)=true then some 0
 else((ui n a0).bind fun xs1 =>
 (jE n xs1 0).bind fun o2 =>
 some o2)
theorem Ej(n:Nat)(a0:af)(r:Int)(h:rY n a0=some r):bg Tryz.prog 20 [.agg (qc6 a0)] (vi r):=by
 unfold rY at h
 refine AB (fn:=Tryz.f20) (by kernel_rfl) rfl (by kernel_rfl) (Nat.le_of_ble_eq_true (by kernel_rfl)) fun F0 w0 _=>?_
 refine kw [0] [] [(0,.agg (qc6 a0))] [] (Wp.seq (rg [1] [1] [(1,.own 1 0)] [(1,26,qc6 a0)] (To.ah (Wp.seq (Wp.seq (rg [1,6] [1] [(1,.own 1 0),(6,vb (a0.aG==0))] [(1,26,qc6 a0)] (To.ah (cn h (fun h=>?_) (fun h=>?_)))))))))
 ·refine Wp.seq (rg [2] [] [(2,vi 0)] [] (To.ah (Wp.ret (To.aO ?_))))
  cases h
  first|exact To.Aq hΓ hA (by kernel_rfl) (by kernel_rfl)|exact To.wY hΓ (by kernel_rfl)
 ·refine Wp.skip (To.ah (Wp.seq (rg [1,3] [1,3] [(1,.own 1 0),(3,.own 3 0)] [(1,26,qc6 a0),(3,3,[vi 0])] (To.ah (Wp.seq (Wp.seq (rr [] [(1,.fn 78 [.el (qc6 a0)])] [] [3,8] [3] [(3,.own 3 0),(8,.fn 78 [.el (qc6 a0)])] [(3,3,[vi 0])] [(true=true->CX Tryz.prog 43 [.agg (qc6 a0)] (.fn 78 [.el (qc6 a0)]))] (au.cons (fun _=>cx (zq a0)) au.nil) (To.ah (Wp.block ?_)))))))))
  obtain⟨xs1,hxs1,h⟩:=aF h
  obtain⟨o2,ho2,h⟩:=aF h
  refine kw [3,8] [3] [(3,.own 3 0),(8,.fn 78 [.el (qc6 a0)])] [(3,3,[vi 0])] (Wp.FM (σ:=Int) (encs:=kM) (xs:=xs1) ⟨[(1000000,3)],[(1000000,3)],[],[(1000000,3,[vi 0])],.hole,[(1000000,3,[vi o2])]⟩ (fun r (s:Int)=>jE n r s=some o2) (fun(s:Int)=>[(1000000,3,[vi s])]) none [3] [3] [(3,.own 1000000 0)] [(3,.own 3 0)] [(3,3,[vi o2])] 0 (fun x (s:Int)=>[(3,.own 1000000 0)]) (fun x (s:Int)=>[(1000000,3,[vi s])]) rfl (by kernel_rfl) (by kernel_rfl) (D4 n a0 xs1 hxs1) (by kernel_rfl) (by kernel_rfl) (fun s=>by kernel_rfl) (by kernel_rfl) (by kernel_rfl) (by kernel_rfl) ho2 (fun F1 w1 a w h=>h) (fun x=>rfl) (by decide) (by decide) (fun x=>by kernel_rfl) (by kernel_rfl) (by kernel_rfl) (fun x s=>by kernel_rfl) (fun s h=>⟨rfl,by rw[jE] at h;cases h;rfl⟩) (by kernel_rfl) (by kernel_rfl) (fun x r s h F1 w1=>?_) (fun x r s h F1 w1=>zL n x r s _ h) (fun F1 w1 hA=>?_))
  ·refine Wp.skip (kt [3] [1000000] [(3,.own 1000000 0)] [(1000000,3,[vi s])] ?_)
   exact fun a w h=>⟨rfl,h⟩
  ·refine To.bf (To.ah (Wp.seq (rg [2] [] [(2,vi o2)] [] (To.ah (Wp.ret ?_)))))
   cases h
   first|exact To.Aq hΓ hA (by kernel_rfl) (by kernel_rfl)|exact To.wY hΓ (by kernel_rfl)
def kx(n:Nat):Option (Bool) :=
 (fG n Rm).bind fun r1 =>
 ((if((r1.2.2==0)==true)=true then lF n r1.1 else some [])).bind fun r2 =>
 ((if((bif (r1.2.2==0) then(r2==Jg) else false)==true)=true then rY n r1.1 else some 0)).bind fun r3 =>
 aR ((bif (bif (r1.2.2==0) then(r2==Jg) else false) then(r3==4) else false):Bool) fun x4 =>
 some x4
theorem qa(n:Nat)(r:Bool)(h:kx n=some r):bg Tryz.prog 17 [] (vb r):=by
 unfold kx at h
 refine xo Tryz.f17 rfl fun F0 w0 _=>?_
 refine Wp.seq (rg [] [] [] [] (To.ah (Wp.seq ?_)))
 obtain⟨r1,hr1,h⟩:=aF h
 refine rc [] 0 [1,3] [1] [(1,.own 1 0),(3,vi r1.2.2)] [(1,26,qc6 r1.1)] (vf n Rm _ hr1) (To.ah (Wp.seq ?_))
 obtain⟨r2,hr2,h⟩:=aF h
 obtain⟨r3,hr3,h⟩:=aF h
 obtain⟨x4,hx4,h⟩:=bI h
 refine rr [] [(4,.str r2),(9,vi r3)] [] [0] [] [(0,vb (bif (bif (r1.2.2==0) then(r2==Jg) else false) then(r3==4) else false))] [] [(((r1.2.2==0)==true)=true->CX Tryz.prog 18 [.agg (qc6 r1.1)] (.str r2)),(((bif (r1.2.2==0) then(r2==Jg) else false)==true)=true->CX Tryz.prog 20 [.agg (qc6 r1.1)] (vi r3))] (au.cons (fun hg=>cx (wK n r1.1 _ (jl hg hr2))) (au.cons (fun hg=>cx (Ej n r1.1 _ (jl hg hr3))) au.nil)) (To.eq (K':=[(0,vb x4)]) (L':=[]) (by cases hx4;rfl) (by cases hx4;rfl) (To.ah (Wp.ret ?_)))
 cases h
 exact To.done hΓ (by kernel_rfl)
def jI(n:Nat)(v0:Ls)(v1:Ls):Nat->Int->Option (Sum (Unit) (Bool))
 |0,_=>none
 |k+1,v5=>if(decide (v5<(List.length v0:Int)))=true then(if(decide (0<=v5/\v5<(List.length v0:Int)))=true then(if(decide (0<=v5/\v5<(List.length v1:Int)))=true then(if(!(((v0)[Int.toNat v5]?.getD [])==((v1)[Int.toNat v5]?.getD [])))=true then(some (.inr false))
 else(jI n v0 v1 k (IntKind.wrap .i64 (v5+1)))) else none) else none)
 else(some (.inl ()))
theorem zD(n:Nat)(v0:Ls)(v1:Ls){F0:Fz}{w0:Pt Tryz.prog}{Q:Exit->Act->World->Prop}(k:Nat):∀(v5:Int)(o:Sum (Unit) (Bool)),jI n v0 v1 k v5=some o->(Sum.elim (fun s=>To 26 F0 w0 [] [] (.exit 0) Q) (fun s=>To 26 F0 w0 [(4,vb s)] [] .ret Q)) o->WL Tryz.prog 26 F0 w0 [(0,ls v0),(1,ls v1),(5,vi v5)] [] (cI (cI (cB (cA (cB (cB (cF Tryz.f30))))))) Q:=by
 induction k with
 |zero=>intro v5 o h;cases h
 |succ k ih =>
  intro v5 o h hQ
  rw[jI] at h
  refine WL.round (Wp.seq (Wp.seq (rg [0,1,5,14] [] [(0,ls v0),(1,ls v1),(5,vi v5),(14,vb (decide (v5<(List.length v0:Int))))] [] (To.ah (cn h (fun h=>?_) (fun h=>?_))))))
  ·refine Wp.skip (To.ah (Wp.seq (Wp.block (Wp.seq ?_))))
   obtain⟨hc1,h⟩:=aL h
   obtain⟨hc2,h⟩:=aL h
   refine Wp.eH hm hΓ [] [0,1,5,25] [] (K':=[(0,ls v0),(1,ls v1),(5,vi v5),(25,vb (!(((v0)[Int.toNat v5]?.getD [])==((v1)[Int.toNat v5]?.getD []))))]) (L':=[]) (ob:=[(decide (0<=v5/\v5<(List.length v0:Int)))=true,(decide (0<=v5/\v5<(List.length v1:Int)))=true]) (by kernel_rfl) (au.cons hc1 (au.cons hc2 au.nil)) (To.ah (cn h (fun h=>?_) (fun h=>?_)))
   ·refine Wp.seq (rg [4] [] [(4,vb false)] [] (To.ah (Wp.ret (To.aU (To.aO (To.aO ?_))))))
    cases h
    exact hQ
   ·refine Wp.skip (To.bf (To.ah (rg [0,1,5] [] [(0,ls v0),(1,ls v1),(ex2 v5)] [] (kt [0,1,5] [] [(0,ls v0),(1,ls v1),(ex2 v5)] [] (To.again ?_)))))
    exact ih (IntKind.wrap .i64 (v5+1)) _ h hQ
  ·refine Wp.exit (To.dE (To.dE (kt [] [] [] [] ?_)))
   cases h
   exact hQ
def pQ(n:Nat)(a0:Ls)(a1:Ls):Option (Bool) :=
 if((List.length a0:Int) != (List.length a1:Int))=true then some false
 else((jI n a0 a1 n 0).bind fun o1 =>
 (Sum.elim (fun o1=>some true) (fun o1=>some o1)) o1)
theorem Es(n:Nat)(a0:Ls)(a1:Ls)(r:Bool)(h:pQ n a0 a1=some r):bg Tryz.prog 30 [ls a0,ls a1] (vb r):=by
 unfold pQ at h
 refine xo Tryz.f30 rfl fun F0 w0 _=>?_
 refine Wp.seq (rg [0,1] [] [(0,ls a0),(1,ls a1)] [] (To.ah (Wp.seq (Wp.seq (rg [0,1,10] [] [(0,ls a0),(1,ls a1),(10,vb ((List.length a0:Int) != (List.length a1:Int)))] [] (To.ah (cn h (fun h=>?_) (fun h=>?_))))))))
 ·refine Wp.seq (rg [4] [] [(4,vb false)] [] (To.ah (Wp.ret (To.aO ?_))))
  cases h
  exact To.done hΓ (by kernel_rfl)
 ·refine Wp.skip (To.ah (Wp.seq (Wp.seq (rg [0,1,5] [] [(0,ls a0),(1,ls a1),(5,vi 0)] [] (To.ah (Wp.block ?_))))))
  obtain⟨o1,ho1,h⟩:=aF h
  refine kw [0,1,5] [] [(0,ls a0),(1,ls a1),(5,vi 0)] [] (Wp.jB (zD n a0 a1 n 0 o1 ho1 ?_))
  rcases o1 with o1|o1
  ·replace h:=iU h
   refine To.iI (To.ah (Wp.seq (rg [4] [] [(4,vb true)] [] (To.ah (Wp.ret ?_)))))
   cases h
   exact To.done hΓ (by kernel_rfl)
  ·replace h:=iV h
   refine To.aU (To.aO ?_)
   cases h
   exact To.done hΓ (by kernel_rfl)
def iZ(R_ref08_Same:af->af->Option (Bool))(n:Nat)(b2:af)(b3:af):Nat->Int->Option (Sum (Unit) (Bool))
 |0,_=>none
 |k+1,v5=>if(decide (v5<(List.length b2.aj:Int)))=true then(if(decide (0<=v5/\v5<(List.length b2.aj:Int)))=true then(if(decide (0<=v5/\v5<(List.length b3.aj:Int)))=true then((R_ref08_Same ((b2.aj)[Int.toNat v5]?.getD (af.mk 0 [] [] [])) ((b3.aj)[Int.toNat v5]?.getD (af.mk 0 [] [] []))).bind fun r3 =>
 if(!r3)=true then(some (.inr false))
 else(iZ R_ref08_Same n b2 b3 k (IntKind.wrap .i64 (v5+1)))) else none) else none)
 else(some (.inl ()))
abbrev QC(R_ref08_Same:af->af->Option (Bool)):Prop:=∀(a0:af)(a1:af)(r:Bool),R_ref08_Same a0 a1=some r->bg Tryz.prog 11 [.agg [vi a0.aG,.str a0.av,ls a0.ay,tn4 a0.aj],.agg [vi a1.aG,.str a1.av,ls a1.ay,tn4 a1.aj]] (vb r)
theorem zp(R_ref08_Same:af->af->Option (Bool))(hR_ref08_Same:QC R_ref08_Same)(n:Nat)(b2:af)(b3:af){F0:Fz}{w0:Pt Tryz.prog}{Q:Exit->Act->World->Prop}(k:Nat):∀(v5:Int)(o:Sum (Unit) (Bool)),iZ R_ref08_Same n b2 b3 k v5=some o->(Sum.elim (fun s=>To 54 F0 w0 [] [] (.exit 0) Q) (fun s=>To 54 F0 w0 [(4,vb s)] [] .ret Q)) o->WL Tryz.prog 54 F0 w0 [(2,.own 2 0),(3,.own 3 0),(5,vi v5)] [(2,26,qc6 b2),(3,26,qc6 b3)] (cI (cI (cB (cA (cB (cB (cF Tryz.f11))))))) Q:=by
 induction k with
 |zero=>intro v5 o h;cases h
 |succ k ih =>
  intro v5 o h hQ
  rw[iZ] at h
  refine WL.round (Wp.seq (Wp.seq (rg [2,3,5,39] [2,3] [(2,.own 2 0),(3,.own 3 0),(5,vi v5),(39,vb (ex4 v5 b2))] [(2,26,qc6 b2),(3,26,qc6 b3)] (To.ah (cn h (fun h=>?_) (fun h=>?_))))))
  ·refine Wp.skip (To.ah (Wp.seq (Wp.block (Wp.seq ?_))))
   obtain⟨hc4,h⟩:=aL h
   obtain⟨hc5,h⟩:=aL h
   obtain⟨r3,hr3,h⟩:=aF h
   refine Wp.eH hm hΓ [(10,vb r3)] [2,3,5,53] [2,3] (K':=[(2,.own 2 0),(3,.own 3 0),(5,vi v5),(53,vb (!r3))]) (L':=[(2,26,qc6 b2),(3,26,qc6 b3)]) (ob:=[(decide (0<=v5/\v5<(List.length b2.aj:Int)))=true,(decide (0<=v5/\v5<(List.length b3.aj:Int)))=true,(true=true->CX Tryz.prog 11 [.agg [vi ((ex3 b2 v5).aG),.str ((ex3 b2 v5).av),ls ((ex3 b2 v5).ay),tn4 ((ex3 b2 v5).aj)],.agg [vi ((ex3 b3 v5).aG),.str ((ex3 b3 v5).av),ls ((ex3 b3 v5).ay),tn4 ((ex3 b3 v5).aj)]] (vb r3))]) (by kernel_rfl) (au.cons hc4 (au.cons hc5 (au.cons (fun _=>cx (hR_ref08_Same (ex3 b2 v5) (ex3 b3 v5) _ hr3)) au.nil))) (To.ah (cn h (fun h=>?_) (fun h=>?_)))
   ·refine Wp.seq (rg [4] [] [(4,vb false)] [] (To.ah (Wp.ret (To.aU (To.aO (To.aO ?_))))))
    cases h
    exact hQ
   ·refine Wp.skip (To.bf (To.ah (rg [2,3,5] [2,3] [(2,.own 2 0),(3,.own 3 0),(ex2 v5)] [(2,26,qc6 b2),(3,26,qc6 b3)] (kt [2,3,5] [2,3] [(2,.own 2 0),(3,.own 3 0),(ex2 v5)] [(2,26,qc6 b2),(3,26,qc6 b3)] (To.again ?_)))))
    exact ih (IntKind.wrap .i64 (v5+1)) _ h hQ
  ·refine Wp.exit (To.dE (To.dE (kt [] [] [] [] ?_)))
   cases h
   exact hQ
def mQ(R_ref08_Same:af->af->Option (Bool))(n:Nat)(a0:af)(a1:af):Option (Bool) :=
 ((if((bif (a0.aG != a1.aG) then true else(!(a0.av==a1.av)))==false)=true then pQ n a0.ay a1.ay else some false)).bind fun r1 =>
 aR ((bif (bif (bif (a0.aG != a1.aG) then true else(!(a0.av==a1.av))) then true else(!r1)) then true else((List.length a0.aj:Int) != (List.length a1.aj:Int))):Bool) fun x2 =>
 if x2=true then some false
 else((iZ R_ref08_Same n a0 a1 n 0).bind fun o3 =>
 (Sum.elim (fun o3=>some true) (fun o3=>some o3)) o3)
theorem Bh(R_ref08_Same:af->af->Option (Bool))(hR_ref08_Same:QC R_ref08_Same)(n:Nat)(a0:af)(a1:af)(r:Bool)(h:mQ R_ref08_Same n a0 a1=some r):bg Tryz.prog 11 [.agg (qc6 a0),.agg (qc6 a1)] (vb r):=by
 unfold mQ at h
 refine xo Tryz.f11 rfl fun F0 w0 _=>?_
 refine Wp.seq (rg [2,3] [2,3] [(2,.own 2 0),(3,.own 3 0)] [(2,26,qc6 a0),(3,26,qc6 a1)] (To.ah (Wp.seq (Wp.seq ?_))))
 obtain⟨r1,hr1,h⟩:=aF h
 obtain⟨x2,hx2,h⟩:=bI h
 refine rr [] [(17,vb r1)] [] [2,3,34] [2,3] [(2,.own 2 0),(3,.own 3 0),(34,vb (bif (bif (bif (a0.aG != a1.aG) then true else(!(a0.av==a1.av))) then true else(!r1)) then true else((List.length a0.aj:Int) != (List.length a1.aj:Int))))] [(2,26,qc6 a0),(3,26,qc6 a1)] [(((bif (a0.aG != a1.aG) then true else(!(a0.av==a1.av)))==false)=true->CX Tryz.prog 30 [ls a0.ay,ls a1.ay] (vb r1))] (au.cons (fun hg=>cx (Es n a0.ay a1.ay _ (jl hg hr1))) au.nil) (To.eq (K':=[(2,.own 2 0),(3,.own 3 0),(34,vb x2)]) (L':=[(2,26,qc6 a0),(3,26,qc6 a1)]) (by cases hx2;rfl) (by cases hx2;rfl) (To.ah (cn h (fun h=>?_) (fun h=>?_))))
 ·refine Wp.seq (rg [4] [] [(4,vb false)] [] (To.ah (Wp.ret (To.aO ?_))))
  cases h
  exact To.done hΓ (by kernel_rfl)
 ·refine Wp.skip (To.ah (Wp.seq (Wp.seq (rg [2,3,5] [2,3] [(2,.own 2 0),(3,.own 3 0),(5,vi 0)] [(2,26,qc6 a0),(3,26,qc6 a1)] (To.ah (Wp.block ?_))))))
  obtain⟨o3,ho3,h⟩:=aF h
  refine kw [2,3,5] [2,3] [(2,.own 2 0),(3,.own 3 0),(5,vi 0)] [(2,26,qc6 a0),(3,26,qc6 a1)] (Wp.jB (zp R_ref08_Same hR_ref08_Same n a0 a1 n 0 o3 ho3 ?_))
  rcases o3 with o3|o3
  ·replace h:=iU h
   refine To.iI (To.ah (Wp.seq (rg [4] [] [(4,vb true)] [] (To.ah (Wp.ret ?_)))))
   cases h
   exact To.done hΓ (by kernel_rfl)
  ·replace h:=iV h
   refine To.aU (To.aO ?_)
   cases h
   exact To.done hΓ (by kernel_rfl)
def ku:Nat->af->af->Option (Bool)
 |0=>fun _ _=>none
 |n+1=>mQ (ku n) n
theorem Ep(n:Nat):∀(a0:af)(a1:af)(r:Bool),ku n a0 a1=some r->bg Tryz.prog 11 [.agg (qc6 a0),.agg (qc6 a1)] (vb r):=by
 induction n with
 |zero=>intro a0 a1 r h;cases h
 |succ n ih=>exact fun a0 a1 r h=>Bh (ku n) ih n a0 a1 r h
def nF(n:Nat)(a0:af):Option (Bool) :=
 (lM n a0 200).bind fun r1 =>
 if(!r1)=true then((kx n).bind fun r2 =>
 some r2)
 else((lF n a0).bind fun r3 =>
 (fG n r3).bind fun r4 =>
 if(decide ((List.length r3:Int)>8192))=true then(((if((r4.2.2==9)==true)=true then kx n else some false)).bind fun r5 =>
 some (bif (r4.2.2==9) then r5 else false))
 else(((if((bif (r4.2.2==0) then(r4.2.1==0) else false)==true)=true then ku n r4.1 a0 else some false)).bind fun r6 =>
 ((if((bif (bif (r4.2.2==0) then(r4.2.1==0) else false) then r6 else false)==true)=true then kx n else some false)).bind fun r7 =>
 some (bif (bif (bif (r4.2.2==0) then(r4.2.1==0) else false) then r6 else false) then r7 else false)))
theorem yU(n:Nat)(a0:af)(r:Bool)(h:nF n a0=some r):bg Tryz.prog 6 [.agg (qc6 a0)] (vb r):=by
 unfold nF at h
 refine xo Tryz.f6 rfl fun F0 w0 _=>?_
 refine Wp.seq (rg [1] [1] [(1,.own 1 0)] [(1,26,qc6 a0)] (To.ah (Wp.seq (Wp.seq ?_))))
 obtain⟨r1,hr1,h⟩:=aF h
 refine rc [] 1 [1,9] [1] [(1,.own 1 0),(9,vb (!r1))] [(1,26,qc6 a0)] (CV n a0 200 _ hr1) (To.ah (cn h (fun h=>?_) (fun h=>?_)))
 ·refine Wp.seq ?_
  obtain⟨r2,hr2,h⟩:=aF h
  refine rc [] 0 [2] [] [(2,vb r2)] [] (qa n  _ hr2) (To.ah (Wp.ret (To.aO ?_)))
  cases h
  exact To.done hΓ (by kernel_rfl)
 ·refine Wp.skip (To.ah (Wp.seq ?_))
  obtain⟨r3,hr3,h⟩:=aF h
  refine rc [] 1 [1,3] [1] [(1,.own 1 0),(3,.str r3)] [(1,26,qc6 a0)] (wK n a0 _ hr3) (To.ah (Wp.seq ?_))
  obtain⟨r4,hr4,h⟩:=aF h
  refine rc [] 1 [1,3,4,5,6] [1,4] [(1,.own 1 0),(3,.str r3),(4,.own 4 0),(5,vi r4.2.1),(6,vi r4.2.2)] [(1,26,qc6 a0),(4,26,qc6 r4.1)] (vf n r3 _ hr4) (To.ah (Wp.seq (Wp.seq (rg [1,4,5,6,21] [1,4] [(1,.own 1 0),(4,.own 4 0),(5,vi r4.2.1),(6,vi r4.2.2),(21,vb (decide ((List.length r3:Int)>8192)))] [(1,26,qc6 a0),(4,26,qc6 r4.1)] (To.ah (cn h (fun h=>?_) (fun h=>?_)))))))
  ·refine Wp.seq ?_
   obtain⟨r5,hr5,h⟩:=aF h
   refine rr [] [(3,vb r5)] [] [2] [] [(2,vb (bif (r4.2.2==9) then r5 else false))] [] [(((r4.2.2==9)==true)=true->CX Tryz.prog 17 [] (vb r5))] (au.cons (fun hg=>cx (qa n  _ (jl hg hr5))) au.nil) (To.ah (Wp.ret (To.aO ?_)))
   cases h
   exact To.done hΓ (by kernel_rfl)
  ·refine Wp.skip (To.ah (Wp.seq ?_))
   obtain⟨r6,hr6,h⟩:=aF h
   obtain⟨r7,hr7,h⟩:=aF h
   refine rr [] [(9,vb r6),(12,vb r7)] [] [2] [] [(2,vb (bif (bif (bif (r4.2.2==0) then(r4.2.1==0) else false) then r6 else false) then r7 else false))] [] [(((bif (r4.2.2==0) then(r4.2.1==0) else false)==true)=true->CX Tryz.prog 11 [.agg (qc6 r4.1),.agg (qc6 a0)] (vb r6)),(((bif (bif (r4.2.2==0) then(r4.2.1==0) else false) then r6 else false)==true)=true->CX Tryz.prog 17 [] (vb r7))] (au.cons (fun hg=>cx (Ep n r4.1 a0 _ (jl hg hr6))) (au.cons (fun hg=>cx (qa n  _ (jl hg hr7))) au.nil)) (To.ah (Wp.ret ?_))
   cases h
   exact To.done hΓ (by kernel_rfl)
def oY(n:Nat)(v0:Bs)(v1:Int)(v5:Int)(v7:Bool):Option (Int) :=
 if v7=true then(if(decide (0<=(IntKind.wrap .i64 (v1-1))/\(IntKind.wrap .i64 (v1-1))<(List.length v0:Int)))=true then(some (((v0)[Int.toNat (IntKind.wrap .i64 (v1-1))]?.getD 0).toNat:Int)) else none)
 else some v5
def sV(n:Nat)(a0:Bs)(a1:Int):Option (Int) :=
 (oY n a0 a1 32 (decide (a1>0))).bind fun o1 =>
 if(decide (0<=a1/\a1<(List.length a0:Int)))=true then(if(bif ((((a0)[Int.toNat a1]?.getD 0).toNat:Int)==35) then(o1==32) else false)=true then some 2
 else(if(decide (0<=a1/\a1<(List.length a0:Int)))=true then(if((!(((((a0)[Int.toNat a1]?.getD 0).toNat:Int) != 34)==true)||decide (0<=a1/\a1<(List.length a0:Int))))=true then(aR ((bif ((((a0)[Int.toNat a1]?.getD 0).toNat:Int) != 34) then((((a0)[Int.toNat a1]?.getD 0).toNat:Int) != 39) else false):Bool) fun x2 =>
 if x2=true then some 0
 else(if(bif (bif (bif (o1==32) then true else(o1==91)) then true else(o1==123)) then true else(o1==44))=true then some 1
 else some 0)) else none) else none)) else none
def pK(a0:Int):Bool :=
 (bif (bif (decide (a0>=32)) then(decide (a0<=126)) else false) then true else(decide (a0>=128)))
def nR(a0:Int):Int :=
 if(bif (decide (a0>=48)) then(decide (a0<=57)) else false)=true then((IntKind.wrap .i64 ((IntKind.wrap .i64 (a0))-48)))
 else(if(bif (decide (a0>=97)) then(decide (a0<=102)) else false)=true then((IntKind.wrap .i64 ((IntKind.wrap .i64 (a0))-87)))
 else(if(bif (decide (a0>=65)) then(decide (a0<=70)) else false)=true then((IntKind.wrap .i64 ((IntKind.wrap .i64 (a0))-55)))
 else 16))
def dS(n:Nat)(v0:Bs):Nat->Int->(List (UInt8))->Option (Sum (Unit) (Bs×Int×Bool))
 |0,_,_=>none
 |k+1,v1,v7=>if(decide (v1<(List.length v0:Int)))=true then(if(decide (0<=v1/\v1<(List.length v0:Int)))=true then(if(!(pK (((v0)[Int.toNat v1]?.getD 0).toNat:Int)))=true then(some (.inr ([],0,false)))
 else(if((((v0)[Int.toNat v1]?.getD 0).toNat:Int)==34)=true then(some (.inr (v7,(IntKind.wrap .i64 (v1+1)),true)))
 else(if((((v0)[Int.toNat v1]?.getD 0).toNat:Int) != 92)=true then(if(decide ((List.length v7+List.length ([((v0)[Int.toNat v1]?.getD 0)]:List (UInt8)))*(1+1)<=limit))=true then(dS n v0 k (IntKind.wrap .i64 (v1+1)) (v7++([((v0)[Int.toNat v1]?.getD 0)]:List (UInt8)))) else none)
 else(if(decide ((IntKind.wrap .i64 (v1+1))>=(List.length v0:Int)))=true then(some (.inr ([],0,false)))
 else(if(decide (0<=(IntKind.wrap .i64 (v1+1))/\(IntKind.wrap .i64 (v1+1))<(List.length v0:Int)))=true then(aR ((bif ((((v0)[Int.toNat (IntKind.wrap .i64 (v1+1))]?.getD 0).toNat:Int)==92) then true else((((v0)[Int.toNat (IntKind.wrap .i64 (v1+1))]?.getD 0).toNat:Int)==34)):Bool) fun x2 =>
 if x2=true then(if(decide ((List.length v7+List.length ([((v0)[Int.toNat (IntKind.wrap .i64 (v1+1))]?.getD 0)]:List (UInt8)))*(1+1)<=limit))=true then(dS n v0 k (IntKind.wrap .i64 (v1+2)) (v7++([((v0)[Int.toNat (IntKind.wrap .i64 (v1+1))]?.getD 0)]:List (UInt8)))) else none)
 else(if((((v0)[Int.toNat (IntKind.wrap .i64 (v1+1))]?.getD 0).toNat:Int)==110)=true then(if(decide ((List.length v7+List.length ([10]:List (UInt8)))*(1+1)<=limit))=true then(dS n v0 k (IntKind.wrap .i64 (v1+2)) (v7++([10]:List (UInt8)))) else none)
 else(if((((v0)[Int.toNat (IntKind.wrap .i64 (v1+1))]?.getD 0).toNat:Int)==116)=true then(if(decide ((List.length v7+List.length ([9]:List (UInt8)))*(1+1)<=limit))=true then(dS n v0 k (IntKind.wrap .i64 (v1+2)) (v7++([9]:List (UInt8)))) else none)
 else(if((!((bif ((((v0)[Int.toNat (IntKind.wrap .i64 (v1+1))]?.getD 0).toNat:Int)==120) then(decide ((IntKind.wrap .i64 (v1+3))<(List.length v0:Int))) else false)==true)||decide (0<=(IntKind.wrap .i64 (v1+2))/\(IntKind.wrap .i64 (v1+2))<(List.length v0:Int))))=true then(aR (nR (((v0)[Int.toNat (IntKind.wrap .i64 (v1+2))]?.getD 0).toNat:Int)) fun r6 =>
 if((!((bif (bif ((((v0)[Int.toNat (IntKind.wrap .i64 (v1+1))]?.getD 0).toNat:Int)==120) then(decide ((IntKind.wrap .i64 (v1+3))<(List.length v0:Int))) else false) then(decide (r6<16)) else false)==true)||decide (0<=(IntKind.wrap .i64 (v1+3))/\(IntKind.wrap .i64 (v1+3))<(List.length v0:Int))))=true then(aR (nR (((v0)[Int.toNat (IntKind.wrap .i64 (v1+3))]?.getD 0).toNat:Int)) fun r7 =>
 aR ((bif (bif (bif ((((v0)[Int.toNat (IntKind.wrap .i64 (v1+1))]?.getD 0).toNat:Int)==120) then(decide ((IntKind.wrap .i64 (v1+3))<(List.length v0:Int))) else false) then(decide (r6<16)) else false) then(decide (r7<16)) else false):Bool) fun x8 =>
 if x8=true then(if(decide (0<=(IntKind.wrap .i64 (v1+2))/\(IntKind.wrap .i64 (v1+2))<(List.length v0:Int)))=true then(aR (nR (((v0)[Int.toNat (IntKind.wrap .i64 (v1+2))]?.getD 0).toNat:Int)) fun r9 =>
 if(decide (0<=(IntKind.wrap .i64 (v1+3))/\(IntKind.wrap .i64 (v1+3))<(List.length v0:Int)))=true then(aR (nR (((v0)[Int.toNat (IntKind.wrap .i64 (v1+3))]?.getD 0).toNat:Int)) fun r10 =>
 if(decide (0<=(IntKind.wrap .u8 ((IntKind.wrap .i64 ((IntKind.wrap .i64 (r9*16))+r10))))/\(IntKind.wrap .u8 ((IntKind.wrap .i64 ((IntKind.wrap .i64 (r9*16))+r10))))<256))=true then(if(decide ((List.length v7+List.length ([(UInt8.ofNat (Int.toNat (IntKind.wrap .u8 ((IntKind.wrap .i64 ((IntKind.wrap .i64 (r9*16))+r10))))))]:List (UInt8)))*(1+1)<=limit))=true then(aR ((v7++([(UInt8.ofNat (Int.toNat (IntKind.wrap .u8 ((IntKind.wrap .i64 ((IntKind.wrap .i64 (r9*16))+r10))))))]:List (UInt8))):List (UInt8)) fun x12 =>
 dS n v0 k (IntKind.wrap .i64 (v1+4)) x12) else none) else none) else none) else none)
 else(some (.inr ([],0,false)))) else none) else none)))) else none))))) else none)
 else(some (.inl ()))
def xQ(n:Nat)(a0:Bs)(a1:Int):Option (Bs×Int×Bool) :=
 (dS n a0 n a1 ([]:List (UInt8))).bind fun o1 =>
 (Sum.elim (fun o1=>some ([],0,false)) (fun o1=>some (o1.1,o1.2.1,o1.2.2))) o1
def uq(n:Nat)(v0:Bs)(v1:Int)(v7:List (UInt8))(v21:Bool):Option (Sum (Int) (Bs×Int×Bool)) :=
 if v21=true then(if((!((decide ((IntKind.wrap .i64 (v1+1))>=(List.length v0:Int)))==false)||decide (0<=(IntKind.wrap .i64 (v1+1))/\(IntKind.wrap .i64 (v1+1))<(List.length v0:Int))))=true then(aR ((bif (decide ((IntKind.wrap .i64 (v1+1))>=(List.length v0:Int))) then true else((((v0)[Int.toNat (IntKind.wrap .i64 (v1+1))]?.getD 0).toNat:Int) != 39)):Bool) fun x1 =>
 if x1=true then(some (.inr (v7,(IntKind.wrap .i64 (v1+1)),true)))
 else(some (.inl (IntKind.wrap .i64 (v1+1))))) else none)
 else(some (.inl v1))
def ij(n:Nat)(v0:Bs):Nat->Int->(List (UInt8))->Option (Sum (Unit) (Bs×Int×Bool))
 |0,_,_=>none
 |k+1,v1,v7=>if(decide (v1<(List.length v0:Int)))=true then(if(decide (0<=v1/\v1<(List.length v0:Int)))=true then(if(!(pK (((v0)[Int.toNat v1]?.getD 0).toNat:Int)))=true then(some (.inr ([],0,false)))
 else(if(decide (0<=v1/\v1<(List.length v0:Int)))=true then((uq n v0 v1 v7 ((((v0)[Int.toNat v1]?.getD 0).toNat:Int)==39)).bind fun o1 =>
 (Sum.elim (fun o1=>if(decide (0<=o1/\o1<(List.length v0:Int)))=true then(if(decide ((List.length v7+List.length ([((v0)[Int.toNat o1]?.getD 0)]:List (UInt8)))*(1+1)<=limit))=true then(ij n v0 k (IntKind.wrap .i64 (o1+1)) (v7++([((v0)[Int.toNat o1]?.getD 0)]:List (UInt8)))) else none) else none) (fun o1=>some (.inr (o1.1,o1.2.1,o1.2.2)))) o1) else none)) else none)
 else(some (.inl ()))
def xM(n:Nat)(a0:Bs)(a1:Int):Option (Bs×Int×Bool) :=
 (ij n a0 n a1 ([]:List (UInt8))).bind fun o1 =>
 (Sum.elim (fun o1=>some ([],0,false)) (fun o1=>some (o1.1,o1.2.1,o1.2.2))) o1
def wJ(n:Nat)(v0:Bs)(v1:Int)(v33:Bool):Option (Bs×Int×Bool) :=
 if v33=true then((xQ n v0 (IntKind.wrap .i64 (v1+1))).bind fun r2 =>
 some (r2.1,r2.2.1,r2.2.2))
 else((xM n v0 (IntKind.wrap .i64 (v1+1))).bind fun r3 =>
 some (r3.1,r3.2.1,r3.2.2))
def kj(n:Nat)(a0:Bs)(a1:Int):Option (Bs×Int×Int) :=
 if((!((bif (decide (a1<0)) then true else(decide (a1>=(List.length a0:Int))))==false)||decide (0<=a1/\a1<(List.length a0:Int))))=true then(if((!((((((a0)[Int.toNat a1]?.getD 0).toNat:Int) != 34)==true)&&((bif (decide (a1<0)) then true else(decide (a1>=(List.length a0:Int))))==false))||decide (0<=a1/\a1<(List.length a0:Int))))=true then(aR ((bif (bif (decide (a1<0)) then true else(decide (a1>=(List.length a0:Int)))) then true else(bif ((((a0)[Int.toNat a1]?.getD 0).toNat:Int) != 34) then((((a0)[Int.toNat a1]?.getD 0).toNat:Int) != 39) else false)):Bool) fun x1 =>
 if x1=true then(some ([],0,2))
 else(if(decide (0<=a1/\a1<(List.length a0:Int)))=true then((wJ n a0 a1 ((((a0)[Int.toNat a1]?.getD 0).toNat:Int)==34)).bind fun o2 =>
 if(!o2.2.2)=true then(some ([],0,3))
 else(some (o2.1,o2.2.1,0))) else none)) else none) else none
def kL(n:Nat):Nat->Bs->Int->Option (Sum (Bs) (Bs×Bool))
 |0,_,_=>none
 |k+1,v0,v4=>if(decide (v4<(List.length v0:Int)))=true then((sV n v0 v4).bind fun r1 =>
 if(r1==2)=true then(if(decide (0<=v4/\v4<=(List.length v0:Int)))=true then(some (.inl (List.take (Int.toNat v4) v0))) else none)
 else(if(r1==1)=true then((kj n v0 v4).bind fun r3 =>
 if(r3.2.2 != 0)=true then(some (.inr ([],false)))
 else(kL n k v0 r3.2.1))
 else(if(decide (0<=v4/\v4<(List.length v0:Int)))=true then(if(!(pK (((v0)[Int.toNat v4]?.getD 0).toNat:Int)))=true then(some (.inr ([],false)))
 else(kL n k v0 (IntKind.wrap .i64 (v4+1)))) else none)))
 else(some (.inl v0))
def pd(n:Nat):Nat->Bs->Option (Bs)
 |0,_=>none
 |k+1,v0=>if((!((decide ((List.length v0:Int)>0))==true)||decide (0<=(IntKind.wrap .i64 ((List.length v0:Int)-1))/\(IntKind.wrap .i64 ((List.length v0:Int)-1))<(List.length v0:Int))))=true then(aR ((bif (decide ((List.length v0:Int)>0)) then((((v0)[Int.toNat (IntKind.wrap .i64 ((List.length v0:Int)-1))]?.getD 0).toNat:Int)==32) else false):Bool) fun x2 =>
 if x2=true then(if(decide (0<=(IntKind.wrap .i64 ((List.length v0:Int)-1))/\(IntKind.wrap .i64 ((List.length v0:Int)-1))<=(List.length v0:Int)))=true then(pd n k (List.take (Int.toNat (IntKind.wrap .i64 ((List.length v0:Int)-1))) v0)) else none)
 else some v0) else none
def D2(n:Nat)(a0:Bs):Option (Bs×Bool) :=
 (kL n n a0 0).bind fun o1 =>
 (Sum.elim (fun o1=>(pd n n o1).bind fun o2 =>
 some (o2,true)) (fun o1=>some (o1.1,o1.2))) o1
structure Qd where
 f_N:af
 SI:Int
 eP:Int
 f_E:Int
end Go.Proofs.YtefojkdckfidcaaGreatDoor.M
namespace Go.Proofs.YtefojkdckfidcaaGreatDoor.M
open Go.RowKit Go.Proofs.YtefojkdckfidcaaGreatDoor.RX
set_option maxRecDepth 100000
def pg(n:Nat)(v0:Int)(v1:Bs):Nat->Int->Option (Sum (Unit) (Bool))
 |0,_=>none
 |k+1,v5=>if(decide (v5<(List.length v1:Int)))=true then(if(decide (0<=v5/\v5<(List.length v1:Int)))=true then(if((((v1)[Int.toNat v5]?.getD 0).toNat:Int)==v0)=true then(some (.inr true))
 else(pg n v0 v1 k (IntKind.wrap .i64 (v5+1)))) else none)
 else(some (.inl ()))
def ry(n:Nat)(a0:Int)(a1:Bs):Option (Bool) :=
 (pg n a0 a1 n 0).bind fun o1 =>
 (Sum.elim (fun o1=>some false) (fun o1=>some o1)) o1
def kN(n:Nat)(v0:Bs)(v3:Int):Nat->Int->Option (Sum (Unit) (Bool))
 |0,_=>none
 |k+1,v4=>if(decide (v4<v3))=true then(if(decide (0<=v4/\v4<(List.length v0:Int)))=true then(if(!(pK (((v0)[Int.toNat v4]?.getD 0).toNat:Int)))=true then(some (.inr false))
 else(if(decide (0<=v4/\v4<(List.length v0:Int)))=true then(if((!(((v4==(IntKind.wrap .i64 (v3-1)))==false)&&(((((v0)[Int.toNat v4]?.getD 0).toNat:Int)==58)==true))||decide (0<=(IntKind.wrap .i64 (v4+1))/\(IntKind.wrap .i64 (v4+1))<(List.length v0:Int))))=true then(aR ((bif ((((v0)[Int.toNat v4]?.getD 0).toNat:Int)==58) then(bif (v4==(IntKind.wrap .i64 (v3-1))) then true else((((v0)[Int.toNat (IntKind.wrap .i64 (v4+1))]?.getD 0).toNat:Int)==32)) else false):Bool) fun x4 =>
 if x4=true then(some (.inr false))
 else(if(decide (0<=v4/\v4<(List.length v0:Int)))=true then(if((!((bif ((((v0)[Int.toNat v4]?.getD 0).toNat:Int)==35) then(decide (v4>0)) else false)==true)||decide (0<=(IntKind.wrap .i64 (v4-1))/\(IntKind.wrap .i64 (v4-1))<(List.length v0:Int))))=true then(aR ((bif (bif ((((v0)[Int.toNat v4]?.getD 0).toNat:Int)==35) then(decide (v4>0)) else false) then((((v0)[Int.toNat (IntKind.wrap .i64 (v4-1))]?.getD 0).toNat:Int)==32) else false):Bool) fun x5 =>
 if x5=true then(some (.inr false))
 else(kN n v0 v3 k (IntKind.wrap .i64 (v4+1)))) else none) else none)) else none) else none)) else none)
 else(some (.inl ()))
def nS(n:Nat)(a0:Bs):Option (Bool) :=
 if((!((bif (bif ((List.length a0:Int)==0) then true else(a0==[126])) then true else(a0==rM))==false)||decide (0<=(0:Int)/\(0:Int)<(List.length a0:Int))))=true then(if((!((bif (bif (bif ((List.length a0:Int)==0) then true else(a0==[126])) then true else(a0==rM)) then true else((((a0)[Int.toNat 0]?.getD 0).toNat:Int)==32))==false)||decide (0<=(IntKind.wrap .i64 ((List.length a0:Int)-1))/\(IntKind.wrap .i64 ((List.length a0:Int)-1))<(List.length a0:Int))))=true then(aR ((bif (bif (bif (bif ((List.length a0:Int)==0) then true else(a0==[126])) then true else(a0==rM)) then true else((((a0)[Int.toNat 0]?.getD 0).toNat:Int)==32)) then true else((((a0)[Int.toNat (IntKind.wrap .i64 ((List.length a0:Int)-1))]?.getD 0).toNat:Int)==32)):Bool) fun x1 =>
 if x1=true then some false
 else(if(decide (0<=(0:Int)/\(0:Int)<(List.length a0:Int)))=true then((ry n (((a0)[Int.toNat 0]?.getD 0).toNat:Int) Je).bind fun r2 =>
 if r2=true then some false
 else(if(decide (0<=(0:Int)/\(0:Int)<(List.length a0:Int)))=true then(if((!((((List.length a0:Int)==1)==false)&&(((((a0)[Int.toNat 0]?.getD 0).toNat:Int)==45)==true))||decide (0<=(1:Int)/\(1:Int)<(List.length a0:Int))))=true then(aR ((bif ((((a0)[Int.toNat 0]?.getD 0).toNat:Int)==45) then(bif ((List.length a0:Int)==1) then true else((((a0)[Int.toNat 1]?.getD 0).toNat:Int)==32)) else false):Bool) fun x3 =>
 if x3=true then some false
 else((kN n a0 (List.length a0:Int) n 0).bind fun o4 =>
 (Sum.elim (fun o4=>some true) (fun o4=>some o4)) o4)) else none) else none)) else none)) else none) else none
def lW(n:Nat)(v0:Ls)(v1:Bs):Nat->Int->Option (Sum (Unit) (Bool))
 |0,_=>none
 |k+1,v5=>if(decide (v5<(List.length v0:Int)))=true then(if(decide (0<=v5/\v5<(List.length v0:Int)))=true then(if(((v0)[Int.toNat v5]?.getD [])==v1)=true then(some (.inr true))
 else(lW n v0 v1 k (IntKind.wrap .i64 (v5+1)))) else none)
 else(some (.inl ()))
def zm(n:Nat)(a0:Ls)(a1:Bs):Option (Bool) :=
 (lW n a0 a1 n 0).bind fun o1 =>
 (Sum.elim (fun o1=>some false) (fun o1=>some o1)) o1
def mo(n:Nat)(v0:Bs):Nat->Int->Option (Int)
 |0,_=>none
 |k+1,v1=>if((!((decide (v1<(List.length v0:Int)))==true)||decide (0<=v1/\v1<(List.length v0:Int))))=true then(if(bif (decide (v1<(List.length v0:Int))) then((((v0)[Int.toNat v1]?.getD 0).toNat:Int)==32) else false)=true then(mo n v0 k (IntKind.wrap .i64 (v1+1)))
 else some v1) else none
def gp(n:Nat)(a0:Bs)(a1:Int):Option (Int) :=
 (mo n a0 n a1).bind fun o1 =>
 some o1
def iE(n:Nat)(a0:Bs)(a1:Int)(a2:Int):Option (Bool) :=
 if((!((decide (a1<(List.length a0:Int)))==true)||decide (0<=a1/\a1<(List.length a0:Int))))=true then(some (bif (decide (a1<(List.length a0:Int))) then((((a0)[Int.toNat a1]?.getD 0).toNat:Int)==a2) else false)) else none
def pF(R_ref09_value:Bs->Int->Option (af×Int))(n:Nat)(v0:Bs):Nat->Int->af->af->Option (Int×af)
 |0,_,_,_=>none
 |k+1,v1,b4,b6=>(gp n v0 v1).bind fun r3 =>
 (R_ref09_value v0 r3).bind fun r4 =>
 if(decide (r4.2<=r3))=true then(some ((-1),b6))
 else(if(decide ((List.length b6.aj+List.length ([r4.1]:List (af)))*(72+1)<=limit))=true then((gp n v0 r4.2).bind fun r5 =>
 (iE n v0 r5 93).bind fun r6 =>
 if r6=true then(some ((IntKind.wrap .i64 (r5+1)),(af.mk b6.aG b6.av b6.ay (b6.aj++([r4.1]:List (af))))))
 else((iE n v0 r5 44).bind fun r7 =>
 if(!r7)=true then(some ((-1),(af.mk b6.aG b6.av b6.ay (b6.aj++([r4.1]:List (af))))))
 else(pF R_ref09_value n v0 k (IntKind.wrap .i64 (r5+1)) b4 (af.mk b6.aG b6.av b6.ay (b6.aj++([r4.1]:List (af))))))) else none)
def uv(R_ref09_value:Bs->Int->Option (af×Int))(n:Nat)(a0:Bs)(a1:Int):Option (af×Int) :=
 (gp n a0 a1).bind fun r1 =>
 (iE n a0 r1 93).bind fun r2 =>
 if r2=true then(some ((af.mk 2 [] [] []),(IntKind.wrap .i64 (r1+1))))
 else((pF R_ref09_value n a0 n r1 (af.mk 0 [] [] []) (af.mk 2 [] [] [])).bind fun o3 =>
 some (o3.2,o3.1))
def vC(a0:Int):Bool :=
 aR ((bif (bif (bif (bif (a0==44) then true else(a0==91)) then true else(a0==93)) then true else(a0==123)) then true else(a0==125)):Bool) fun x1 =>
 x1
def kR(n:Nat)(v0:Bs):Nat->Int->Option (Sum (Int) (Int))
 |0,_=>none
 |k+1,v1=>if(decide (v1<(List.length v0:Int)))=true then(if(decide (0<=v1/\v1<(List.length v0:Int)))=true then(if(vC (((v0)[Int.toNat v1]?.getD 0).toNat:Int))=true then(some (.inr v1))
 else(if(decide (0<=v1/\v1<(List.length v0:Int)))=true then(if((!((((IntKind.wrap .i64 (v1+1))==(List.length v0:Int))==false)&&(((((v0)[Int.toNat v1]?.getD 0).toNat:Int)==58)==true))||decide (0<=(IntKind.wrap .i64 (v1+1))/\(IntKind.wrap .i64 (v1+1))<(List.length v0:Int))))=true then(if((!(((bif ((IntKind.wrap .i64 (v1+1))==(List.length v0:Int)) then true else((((v0)[Int.toNat (IntKind.wrap .i64 (v1+1))]?.getD 0).toNat:Int)==32))==false)&&(((((v0)[Int.toNat v1]?.getD 0).toNat:Int)==58)==true))||decide (0<=(IntKind.wrap .i64 (v1+1))/\(IntKind.wrap .i64 (v1+1))<(List.length v0:Int))))=true then(aR (vC (((v0)[Int.toNat (IntKind.wrap .i64 (v1+1))]?.getD 0).toNat:Int)) fun r1 =>
 aR ((bif ((((v0)[Int.toNat v1]?.getD 0).toNat:Int)==58) then(bif (bif ((IntKind.wrap .i64 (v1+1))==(List.length v0:Int)) then true else((((v0)[Int.toNat (IntKind.wrap .i64 (v1+1))]?.getD 0).toNat:Int)==32)) then true else r1) else false):Bool) fun x2 =>
 if x2=true then(some (.inr v1))
 else(kR n v0 k (IntKind.wrap .i64 (v1+1)))) else none) else none) else none)) else none)
 else(some (.inl v1))
def qw(n:Nat)(a0:Bs)(a1:Int):Option (Int) :=
 (kR n a0 n a1).bind fun o1 =>
 (Sum.elim (fun o1=>some o1) (fun o1=>some o1)) o1
def lq(n:Nat):Nat->Bs->Option (Bs)
 |0,_=>none
 |k+1,v0=>if((!((decide ((List.length v0:Int)>0))==true)||decide (0<=(IntKind.wrap .i64 ((List.length v0:Int)-1))/\(IntKind.wrap .i64 ((List.length v0:Int)-1))<(List.length v0:Int))))=true then(aR ((bif (decide ((List.length v0:Int)>0)) then((((v0)[Int.toNat (IntKind.wrap .i64 ((List.length v0:Int)-1))]?.getD 0).toNat:Int)==32) else false):Bool) fun x1 =>
 if x1=true then(if(decide (0<=(IntKind.wrap .i64 ((List.length v0:Int)-1))/\(IntKind.wrap .i64 ((List.length v0:Int)-1))<=(List.length v0:Int)))=true then(lq n k (List.take (Int.toNat (IntKind.wrap .i64 ((List.length v0:Int)-1))) v0)) else none)
 else some v0) else none
def nV(n:Nat)(a0:Bs):Option (Bs) :=
 (lq n n a0).bind fun o1 =>
 some o1
def pL(n:Nat)(v0:Bs):Nat->Int->Option (Sum (Unit) (Bool))
 |0,_=>none
 |k+1,v3=>if(decide (v3<(List.length v0:Int)))=true then(if(decide (0<=v3/\v3<(List.length v0:Int)))=true then((ry n (((v0)[Int.toNat v3]?.getD 0).toNat:Int) [44,91,93,123,125]).bind fun r1 =>
 if r1=true then(some (.inr false))
 else(pL n v0 k (IntKind.wrap .i64 (v3+1)))) else none)
 else(some (.inl ()))
def qZ(n:Nat)(a0:Bs):Option (Bool) :=
 (pL n a0 n 0).bind fun o1 =>
 (Sum.elim (fun o1=>(nS n a0).bind fun r2 =>
 some r2) (fun o1=>some o1)) o1
def yd(n:Nat)(a0:Bs)(a1:Int):Option (Bs×Int) :=
 (gp n a0 a1).bind fun r1 =>
 (iE n a0 r1 34).bind fun r2 =>
 ((if(r2==false)=true then iE n a0 r1 39 else some false)).bind fun r3 =>
 if(bif r2 then true else r3)=true then((kj n a0 r1).bind fun r4 =>
 if(r4.2.2 != 0)=true then(some ([],(-1)))
 else((gp n a0 r4.2.1).bind fun r5 =>
 (iE n a0 r5 58).bind fun r6 =>
 if(!r6)=true then(some ([],(-1)))
 else(some (r4.1,(IntKind.wrap .i64 (r5+1))))))
 else((qw n a0 r1).bind fun r7 =>
 if(decide (0<=r7/\r7<=(List.length a0:Int)))=true then(if(decide (0<=r1/\r1<=r7))=true then((nV n (List.take (Int.toNat r7-Int.toNat r1) (List.drop (Int.toNat r1) a0))).bind fun r8 =>
 (qZ n r8).bind fun r9 =>
 ((if((!r9)==false)=true then iE n a0 r7 58 else some false)).bind fun r10 =>
 if(bif (!r9) then true else(!r10))=true then(some ([],(-1)))
 else(some (r8,(IntKind.wrap .i64 (r7+1))))) else none) else none)
def np(R_ref09_value:Bs->Int->Option (af×Int))(n:Nat)(v0:Bs):Nat->Int->af->af->Option (Int×af)
 |0,_,_,_=>none
 |k+1,v1,b4,b6=>(yd n v0 v1).bind fun r3 =>
 ((if((decide (r3.2<0))==false)=true then zm n b6.ay r3.1 else some false)).bind fun r4 =>
 if(bif (decide (r3.2<0)) then true else r4)=true then(some ((-1),b6))
 else((R_ref09_value v0 r3.2).bind fun r5 =>
 if(decide (r5.2<0))=true then(some ((-1),b6))
 else(if(decide ((List.length b6.ay+List.length ([r3.1]:Ls))*(16+1)<=limit))=true then(if(decide ((List.length b6.aj+List.length ([r5.1]:List (af)))*(72+1)<=limit))=true then((gp n v0 r5.2).bind fun r6 =>
 (iE n v0 r6 125).bind fun r7 =>
 if r7=true then(some ((IntKind.wrap .i64 (r6+1)),(af.mk b6.aG b6.av (b6.ay++([r3.1]:Ls)) (b6.aj++([r5.1]:List (af))))))
 else((iE n v0 r6 44).bind fun r8 =>
 if(!r8)=true then(some ((-1),(af.mk b6.aG b6.av (b6.ay++([r3.1]:Ls)) (b6.aj++([r5.1]:List (af))))))
 else(np R_ref09_value n v0 k (IntKind.wrap .i64 (r6+1)) b4 (af.mk b6.aG b6.av (b6.ay++([r3.1]:Ls)) (b6.aj++([r5.1]:List (af))))))) else none) else none))
def qO(R_ref09_value:Bs->Int->Option (af×Int))(n:Nat)(a0:Bs)(a1:Int):Option (af×Int) :=
 (gp n a0 a1).bind fun r1 =>
 (iE n a0 r1 125).bind fun r2 =>
 if r2=true then(some ((af.mk 3 [] [] []),(IntKind.wrap .i64 (r1+1))))
 else((np R_ref09_value n a0 n r1 (af.mk 0 [] [] []) (af.mk 3 [] [] [])).bind fun o3 =>
 some (o3.2,o3.1))
def tf(n:Nat)(a0:Bs)(a1:Bool):Option (af×Bool) :=
 if(bif (bif (a0==[]) then true else(a0==[126])) then true else(a0==rM))=true then(some ((af.mk 0 [] [] []),true))
 else((kj n a0 0).bind fun r1 =>
 if(bif (r1.2.2==0) then(r1.2.1==(List.length a0:Int)) else false)=true then(some ((af.mk 1 r1.1 [] []),true))
 else(((if(a1==true)=true then qZ n a0 else some false)).bind fun r2 =>
 ((if(((!a1)==true)&&((bif a1 then r2 else false)==false))=true then nS n a0 else some false)).bind fun r3 =>
 if(bif (bif a1 then r2 else false) then true else(bif (!a1) then r3 else false))=true then(some ((af.mk 1 a0 [] []),true))
 else(some ((af.mk 0 [] [] []),false))))
end Go.Proofs.YtefojkdckfidcaaGreatDoor.M
namespace Go.Proofs.YtefojkdckfidcaaGreatDoor.M
open Go.RowKit Go.Proofs.YtefojkdckfidcaaGreatDoor.RX
set_option maxRecDepth 100000
def rE(R_ref09_value:Bs->Int->Option (af×Int))(n:Nat)(a0:Bs)(a1:Int):Option (af×Int) :=
 (gp n a0 a1).bind fun r1 =>
 if(r1==(List.length a0:Int))=true then(some ((af.mk 0 [] [] []),r1))
 else(if(decide (0<=r1/\r1<(List.length a0:Int)))=true then(if((((a0)[Int.toNat r1]?.getD 0).toNat:Int)==91)=true then((uv R_ref09_value n a0 (IntKind.wrap .i64 (r1+1))).bind fun r2 =>
 some (r2.1,r2.2))
 else(if(decide (0<=r1/\r1<(List.length a0:Int)))=true then(if((((a0)[Int.toNat r1]?.getD 0).toNat:Int)==123)=true then((qO R_ref09_value n a0 (IntKind.wrap .i64 (r1+1))).bind fun r3 =>
 some (r3.1,r3.2))
 else(if(decide (0<=r1/\r1<(List.length a0:Int)))=true then(if((!(((((a0)[Int.toNat r1]?.getD 0).toNat:Int)==34)==false)||decide (0<=r1/\r1<(List.length a0:Int))))=true then(aR ((bif ((((a0)[Int.toNat r1]?.getD 0).toNat:Int)==34) then true else((((a0)[Int.toNat r1]?.getD 0).toNat:Int)==39)):Bool) fun x4 =>
 if x4=true then((kj n a0 r1).bind fun r5 =>
 if(r5.2.2 != 0)=true then(some ((af.mk 0 [] [] []),(-1)))
 else(some ((af.mk 1 r5.1 [] []),r5.2.1)))
 else((qw n a0 r1).bind fun r6 =>
 if(decide (0<=r6/\r6<=(List.length a0:Int)))=true then(if(decide (0<=r1/\r1<=r6))=true then((nV n (List.take (Int.toNat r6-Int.toNat r1) (List.drop (Int.toNat r1) a0))).bind fun r7 =>
 (tf n r7 true).bind fun r8 =>
 if(!r8.2)=true then(some ((af.mk 0 [] [] []),(-1)))
 else(some (r8.1,r6))) else none) else none)) else none) else none)) else none)) else none)
def jS:Nat->Bs->Int->Option (af×Int)
 |0=>fun _ _=>none
 |n+1=>rE (jS n) n
def uJ(n:Nat)(a0:af):Option (Bool) :=
 (dW n a0 1 2000).bind fun r1 =>
 some (decide (r1>=0))
def y5(n:Nat)(a0:Bs):Option (af×Int) :=
 (jS n a0 0).bind fun r1 =>
 ((if((decide (r1.2<0))==false)=true then gp n a0 r1.2 else some 0)).bind fun r2 =>
 if(bif (decide (r1.2<0)) then true else(decide (r2<(List.length a0:Int))))=true then(some ((af.mk 0 [] [] []),3))
 else((uJ n r1.1).bind fun r3 =>
 if(!r3)=true then(some ((af.mk 0 [] [] []),9))
 else(some (r1.1,0)))
theorem LX:nU Tryz.prog 3 (fun n:Int=>IntKind.min .i64<=n/\n<=IntKind.max .i64) (fun n=>[.val (.int .i64 n)]):=K4 (by kernel_rfl)
theorem ya:nU Tryz.prog 9 (fun l:Bs=>l.length<=maxLen) (fun l=>[.str l]):=MO (by kernel_rfl)
def Ee(l:Ls):Prop:=l.length<=maxLen/\∀x∈l,(List.length x<=maxLen)
theorem Eu:nU Tryz.prog 23 Ee (fun l=>[.recs (α:=Bs) [] dU l]):=GM (α:=Bs) (cells:=dU) [] (by kernel_rfl) (by kernel_rfl) (of_decide_eq_true (by kernel_rfl)) ya
inductive pN:af->Prop
 |mk (x:af) (h:(IntKind.min .i64<=x.aG/\x.aG<=IntKind.max .i64)/\(List.length x.av<=maxLen)/\(Ee x.ay)) (hl:x.aj.length<=maxLen) (hk:∀y∈x.aj,pN y):pN x
theorem BW:nU Tryz.prog 26 pN wP:=by
 refine K7 fun N ih=>?_
 intro H enc W fuel cs d ps hN h
 obtain⟨hl,hf⟩:=LV Tryz.underlying26 hN h
 have hl:cs.length=4:=hl.trans (by kernel_rfl)
 obtain⟨x0,w0,r0⟩:=hf 0 _ rfl (LX.n N)
 have r0:=EI (a':=0) (b':=1) r0 (by kernel_rfl) (by kernel_rfl)
 obtain⟨x1,w1,r1⟩:=hf 1 _ rfl (ya.n N)
 have r1:=EI (a':=1) (b':=1) r1 (by kernel_rfl) (by kernel_rfl)
 obtain⟨x2,w2,r2⟩:=hf 2 _ rfl (Eu.n N)
 have r2:=EI (a':=2) (b':=1) r2 (by kernel_rfl) (by kernel_rfl)
 obtain⟨x3,w3,r3⟩:=hf 3 _ rfl (G3 (α:=af) (pre:=bF) (kids:=bu) (af.mk 0 [] [] []) Tryz.underlying24 (by kernel_rfl) (of_decide_eq_true (by kernel_rfl)) ih)
 have r3:=EI (a':=3) (b':=1) r3 (by kernel_rfl) (by kernel_rfl)
 refine⟨⟨x0,x1,x2,x3⟩,.mk _ ⟨w0,w1,w2⟩ w3.1 w3.2,?_⟩
 exact parts_all (l:=[([.val (.int .i64 x0)],1),([.str x1],1),([.recs (α:=Bs) [] dU x2],1),([.tree (α:=af) (af.mk 0 [] [] []) bF bu x3],1)]) ⟨r0,r1,r2,r3,Nat.le_of_eq hl⟩ rfl
end Go.Proofs.YtefojkdckfidcaaGreatDoor.M
