import Derived.Test.YtpmmhhmhckpnfaaDoorQRxIU
set_option linter.all false
namespace Go.Proofs.YtpmmhhmhckpnfaaDoor.M
open Go.RowKit Go.Proofs.YtpmmhhmhckpnfaaDoor.RX
set_option maxRecDepth 100000
def oR(a0:Int):Bool :=
 (bif (decide (a0>=97)) then(decide (a0<=122)) else false)
theorem yn(a0:Int)(r:Bool)(h:oR a0=r):bq Tryd.prog 71 [.val (.int .u8 a0)] (vb r):=by
 unfold oR at h
 refine xo Tryd.f71 rfl fun F0 w0 _=>?_
 refine Wp.seq (rg [0] [] [(0,.val (.int .u8 a0))] [] (To.aj (Wp.seq (rg [2] [] [(2,vb (bif (decide (a0>=97)) then(decide (a0<=122)) else false))] [] (To.aj (Wp.ret ?_))))))
 cases h
 exact To.done hΓ (by kernel_rfl)
def gB(a0:Int):Bool :=
 (bif (oR a0) then true else(bif (decide (a0>=65)) then(decide (a0<=90)) else false))
theorem qt(a0:Int)(r:Bool)(h:gB a0=r):bq Tryd.prog 65 [.val (.int .u8 a0)] (vb r):=by
 unfold gB at h
 refine xo Tryd.f65 rfl fun F0 w0 _=>?_
 refine Wp.seq (rg [0] [] [(0,.val (.int .u8 a0))] [] (To.aj (Wp.seq (rc [] 1 [2] [] [(2,vb (bif (oR a0) then true else(bif (decide (a0>=65)) then(decide (a0<=90)) else false)))] [] (yn a0 _ rfl) (To.aj (Wp.ret ?_))))))
 cases h
 exact To.done hΓ (by kernel_rfl)
def gG(a0:Int):Bool :=
 (bif (decide (a0>=48)) then(decide (a0<=57)) else false)
theorem qw(a0:Int)(r:Bool)(h:gG a0=r):bq Tryd.prog 66 [.val (.int .u8 a0)] (vb r):=by
 unfold gG at h
 refine xo Tryd.f66 rfl fun F0 w0 _=>?_
 refine Wp.seq (rg [0] [] [(0,.val (.int .u8 a0))] [] (To.aj (Wp.seq (rg [2] [] [(2,vb (bif (decide (a0>=48)) then(decide (a0<=57)) else false))] [] (To.aj (Wp.ret ?_))))))
 cases h
 exact To.done hΓ (by kernel_rfl)
def iU(a0:Int):Bool :=
 (bif (gB a0) then true else(gG a0))
theorem tZ(a0:Int)(r:Bool)(h:iU a0=r):bq Tryd.prog 64 [.val (.int .u8 a0)] (vb r):=by
 unfold iU at h
 refine xo Tryd.f64 rfl fun F0 w0 _=>?_
 refine Wp.seq (rg [0] [] [(0,.val (.int .u8 a0))] [] (To.aj (Wp.seq (rr [] [(1,vb (gB a0)),(4,vb (gG a0))] [] [2] [] [(2,vb (bif (gB a0) then true else(gG a0)))] [] [_,(((gB a0)==false)=true->CX Tryd.prog 66 [.val (.int .u8 a0)] (vb (gG a0)))] (ax.cons (c1 (qt a0 _ rfl)) (ax.cons (fun _=>cx (qw a0 _ rfl)) ax.nil)) (To.aj (Wp.ret ?_))))))
 cases h
 exact To.done hΓ (by kernel_rfl)
def jC(a0:Int):Bool :=
 kE ((bif (bif (bif (bif (gB a0) then true else(gG a0)) then true else(a0==45)) then true else(a0==95)) then true else(a0==46)):Bool) fun x1 =>
 x1
theorem tY(a0:Int)(r:Bool)(h:jC a0=r):bq Tryd.prog 67 [.val (.int .u8 a0)] (vb r):=by
 unfold jC at h
 refine xo Tryd.f67 rfl fun F0 w0 _=>?_
 refine Wp.seq (rg [0] [] [(0,.val (.int .u8 a0))] [] (To.aj (Wp.seq ?_)))
 obtain⟨x1,hx1,h⟩:=kC h
 refine rr [] [(1,vb (gB a0)),(4,vb (gG a0))] [] [2] [] [(2,vb (bif (bif (bif (bif (gB a0) then true else(gG a0)) then true else(a0==45)) then true else(a0==95)) then true else(a0==46)))] [] [_,(((gB a0)==false)=true->CX Tryd.prog 66 [.val (.int .u8 a0)] (vb (gG a0)))] (ax.cons (c1 (qt a0 _ rfl)) (ax.cons (fun _=>cx (qw a0 _ rfl)) ax.nil)) (To.eq (K':=[(2,vb x1)]) (L':=[]) (by cases hx1;rfl) (by cases hx1;rfl) (To.aj (Wp.ret ?_)))
 cases h
 exact To.done hΓ (by kernel_rfl)
def aU(n:Nat)(v0:Bs):Nat->Int->Option (Sum (Unit) (Bool))
 |0,_=>none
 |k+1,v7=>if(decide (v7<(List.length v0:Int)))=true then(if(decide (0<=v7/\v7<(List.length v0:Int)))=true then(if(!(jC (((v0)[Int.toNat v7]?.getD 0).toNat:Int)))=true then(some (.inr false))
 else(aU n v0 k (IntKind.wrap .i64 (v7+1)))) else none)
 else(some (.inl ()))
variable {F0:Fz} {w0:Pt Tryd.prog} {Q:Exit->Act->World->Prop}
theorem jd(n:Nat)(v0:Bs)(k:Nat):∀(v7:Int)(o:Sum (Unit) (Bool)),aU n v0 k v7=some o->(Sum.elim (fun s=>To 35 F0 w0 [] [] (.exit 0) Q) (fun s=>To 35 F0 w0 [(6,vb s)] [] .ret Q)) o->WL Tryd.prog 35 F0 w0 [(0,.str v0),(2,.fn 67 []),(7,vi v7)] [] (cI (cI (cB (cA (cB (cB (cF Tryd.f63))))))) Q:=by
 induction k with
 |zero=>intro v7 o h;cases h
 |succ k ih =>
  intro v7 o h hQ
  rw[aU] at h
  refine WL.round (Wp.seq (Wp.seq (rg [0,2,7,26] [] [(0,.str v0),(2,.fn 67 []),(7,vi v7),(26,vb (decide (v7<(List.length v0:Int))))] [] (To.aj (cn h (fun h=>?_) (fun h=>?_))))))
  ·refine Wp.skip (To.aj (Wp.seq (Wp.block (Wp.seq ?_))))
   obtain⟨hc2,h⟩:=bg h
   refine rr [] [(4,vb (jC (jy v0 v7)))] [] [0,2,7,34] [] [(0,.str v0),(2,.fn 67 []),(7,vi v7),(34,vb (!(jC (jy v0 v7))))] [] [_,_] (ax.cons hc2 (ax.cons (c1 (tY (jy v0 v7) _ rfl)) ax.nil)) (To.aj (cn h (fun h=>?_) (fun h=>?_)))
   ·refine Wp.seq (rg [6] [] [(6,vb false)] [] (To.aj (Wp.ret (To.bH (To.aX (To.aX ?_))))))
    cases h
    exact hQ
   ·refine Wp.skip (To.bT (To.aj (rg [0,2,7] [] [(0,.str v0),(2,.fn 67 []),(7,vi (IntKind.wrap .i64 (v7+1)))] [] (kt [0,2,7] [] [(0,.str v0),(2,.fn 67 []),(7,vi (IntKind.wrap .i64 (v7+1)))] [] (To.again ?_)))))
    exact ih (IntKind.wrap .i64 (v7+1)) _ h hQ
  ·refine Wp.exit (To.aZ (To.aZ (kt [] [] [] [] ?_)))
   cases h
   exact hQ
def dn(n:Nat)(a0:Bs):Option (Bool) :=
 if((!((bif (decide ((List.length a0:Int)<1)) then true else(decide ((List.length a0:Int)>24)))==false)||decide (0<=(0:Int)/\(0:Int)<(List.length a0:Int))))=true then(kE ((bif (bif (decide ((List.length a0:Int)<1)) then true else(decide ((List.length a0:Int)>24))) then true else(!(iU (((a0)[Int.toNat 0]?.getD 0).toNat:Int)))):Bool) fun x1 =>
 if x1=true then some false
 else((aU n a0 n 1).bind fun o2 =>
 (Sum.elim (fun o2=>some true) (fun o2=>some o2)) o2)) else none
abbrev Gm(x0:Bs):=(bif (decide ((List.length x0:Int)<1)) then true else(decide ((List.length x0:Int)>24)))
theorem jG(n:Nat)(a0:Bs)(r:Bool)(h:dn n a0=some r):bq Tryd.prog 63 [.str a0,.fn 64 [],.fn 67 []] (vb r):=by
 unfold dn at h
 refine xo Tryd.f63 rfl fun F0 w0 _=>?_
 refine Wp.seq (rg [0,1,2] [] [(0,.str a0),(1,.fn 64 []),(2,.fn 67 [])] [] (To.aj (Wp.seq (Wp.seq ?_))))
 obtain⟨hc3,h⟩:=bg h
 obtain⟨x1,hx1,h⟩:=kC h
 refine rr [] [(12,vb (iU (((a0)[Int.toNat 0]?.getD 0).toNat:Int)))] [] [0,2,22] [] [(0,.str a0),(2,.fn 67 []),(22,vb (bif (Gm a0) then true else(!(iU (((a0)[Int.toNat 0]?.getD 0).toNat:Int)))))] [] [_,(((Gm a0)==false)=true->CX Tryd.prog 64 [.val (.int .u8 (((a0)[Int.toNat 0]?.getD 0).toNat:Int))] (vb (iU (((a0)[Int.toNat 0]?.getD 0).toNat:Int))))] (ax.cons hc3 (ax.cons (fun _=>cx (tZ (((a0)[Int.toNat 0]?.getD 0).toNat:Int) _ rfl)) ax.nil)) (To.eq (K':=[(0,.str a0),(2,.fn 67 []),(22,vb x1)]) (L':=[]) (by cases hx1;rfl) (by cases hx1;rfl) (To.aj (cn h (fun h=>?_) (fun h=>?_))))
 ·refine Wp.seq (rg [6] [] [(6,vb false)] [] (To.aj (Wp.ret (To.aX ?_))))
  cases h
  exact To.done hΓ (by kernel_rfl)
 ·refine Wp.skip (To.aj (Wp.seq (Wp.seq (rg [0,2,7] [] [(0,.str a0),(2,.fn 67 []),(7,vi 1)] [] (To.aj (Wp.block ?_))))))
  obtain⟨o2,ho2,h⟩:=aG h
  refine kw [0,2,7] [] [(0,.str a0),(2,.fn 67 []),(7,vi 1)] [] (Wp.dE (jd n a0 n 1 o2 ho2 ?_))
  rcases o2 with o2|o2
  ·replace h:=ij h
   refine To.cH (To.aj (Wp.seq (rg [6] [] [(6,vb true)] [] (To.aj (Wp.ret ?_)))))
   cases h
   exact To.done hΓ (by kernel_rfl)
  ·replace h:=il h
   refine To.bH (To.aX ?_)
   cases h
   exact To.done hΓ (by kernel_rfl)
def kK(n:Nat)(a0:Bs):Option (Bool) :=
 (dn n a0).bind fun r1 =>
 some r1
theorem vn(n:Nat)(a0:Bs)(r:Bool)(h:kK n a0=some r):bq Tryd.prog 54 [.str a0] (vb r):=by
 unfold kK at h
 refine xo Tryd.f54 rfl fun F0 w0 _=>?_
 refine Wp.seq (rg [0] [] [(0,.str a0)] [] (To.aj (Wp.seq ?_)))
 obtain⟨r1,hr1,h⟩:=aG h
 refine rc [] 1 [2] [] [(2,vb r1)] [] (jG n a0 _ hr1) (To.aj (Wp.ret ?_))
 cases h
 exact To.done hΓ (by kernel_rfl)
def jD(n:Nat)(a0:Bs):Option (Bool) :=
 (kK n a0).bind fun r1 =>
 some r1
theorem pV(n:Nat)(a0:Bs)(r:Bool)(h:jD n a0=some r):bq Tryd.prog 40 [.str a0] (vb r):=by
 unfold jD at h
 refine xo Tryd.f40 rfl fun F0 w0 _=>?_
 refine Wp.seq (rg [0] [] [(0,.str a0)] [] (To.aj (Wp.seq ?_)))
 obtain⟨r1,hr1,h⟩:=aG h
 refine rc [] 1 [2] [] [(2,vb r1)] [] (vn n a0 _ hr1) (To.aj (Wp.ret ?_))
 cases h
 exact To.done hΓ (by kernel_rfl)
def lG(n:Nat)(a0:aT):Option (Bool) :=
 (kS n a0.dZ).bind fun r1 =>
 ((if(((a0.aQ==[])==false)&&(r1==true))=true then jD n a0.aQ else some false)).bind fun r2 =>
 ((if(((bif (a0.aQ==[]) then true else r2)==false)&&(r1==true))=true then kV n a0.aQ else some false)).bind fun r3 =>
 if((!((r3==true)&&(((bif (a0.aQ==[]) then true else r2)==false)&&(r1==true)))||decide (0<=(0:Int)/\(0:Int)<(List.length a0.aQ:Int))))=true then(if((!((((((a0.aQ)[Int.toNat 0]?.getD 0).toNat:Int)==47)==false)&&((r3==true)&&(((bif (a0.aQ==[]) then true else r2)==false)&&(r1==true))))||decide (0<=(0:Int)/\(0:Int)<(List.length a0.aQ:Int))))=true then(kE ((bif r1 then(bif (bif (a0.aQ==[]) then true else r2) then true else(bif r3 then(bif ((((a0.aQ)[Int.toNat 0]?.getD 0).toNat:Int)==47) then true else((((a0.aQ)[Int.toNat 0]?.getD 0).toNat:Int)==46)) else false)) else false):Bool) fun x4 =>
 some x4) else none) else none
abbrev yK(x:aT):List D:=[.str x.aQ,.str x.dZ,vb x.mX]
theorem wX(n:Nat)(a0:aT)(r:Bool)(h:lG n a0=some r):bq Tryd.prog 39 [.agg (yK a0)] (vb r):=by
 unfold lG at h
 refine xo Tryd.f39 rfl fun F0 w0 _=>?_
 refine Wp.seq (rg [1] [1] [(1,.own 1 0)] [(1,70,yK a0)] (To.aj (Wp.seq (rg [1,3] [1] [(1,.own 1 0),(3,.str a0.aQ)] [(1,70,yK a0)] (To.aj (Wp.seq ?_))))))
 obtain⟨r1,hr1,h⟩:=aG h
 obtain⟨r2,hr2,h⟩:=aG h
 obtain⟨r3,hr3,h⟩:=aG h
 obtain⟨hc5,h⟩:=bg h
 obtain⟨hc6,h⟩:=bg h
 obtain⟨x4,hx4,h⟩:=kC h
 refine rr [] [(2,vb r1),(8,vb r2),(12,vb r3)] [] [2] [] [(2,vb (bif r1 then(bif (bif (a0.aQ==[]) then true else r2) then true else(bif r3 then(bif ((((a0.aQ)[Int.toNat 0]?.getD 0).toNat:Int)==47) then true else((((a0.aQ)[Int.toNat 0]?.getD 0).toNat:Int)==46)) else false)) else false))] [] [_,((((a0.aQ==[])==false)&&(r1==true))=true->CX Tryd.prog 40 [.str a0.aQ] (vb r2)),((((bif (a0.aQ==[]) then true else r2)==false)&&(r1==true))=true->CX Tryd.prog 53 [.str a0.aQ] (vb r3)),_,_] (ax.cons (c1 (vw n a0.dZ _ hr1)) (ax.cons (fun hg=>cx (pV n a0.aQ _ (iZ hg hr2))) (ax.cons (fun hg=>cx (rG n a0.aQ _ (iZ hg hr3))) (ax.cons hc5 (ax.cons hc6 ax.nil))))) (To.eq (K':=[(2,vb x4)]) (L':=[]) (by cases hx4;rfl) (by cases hx4;rfl) (To.aj (Wp.ret ?_)))
 cases h
 exact To.done hΓ (by kernel_rfl)
def lI(n:Nat)(a0:aT):Option (Bool) :=
 (lG n a0).bind fun r1 =>
 ((if(r1==true)=true then jD n a0.aQ else some false)).bind fun r2 =>
 some (bif r1 then r2 else false)
theorem wM(n:Nat)(a0:aT)(r:Bool)(h:lI n a0=some r):bq Tryd.prog 34 [.agg (yK a0)] (vb r):=by
 unfold lI at h
 refine xo Tryd.f34 rfl fun F0 w0 _=>?_
 refine Wp.seq (rg [1] [1] [(1,.own 1 0)] [(1,70,yK a0)] (To.aj (Wp.seq ?_)))
 obtain⟨r1,hr1,h⟩:=aG h
 obtain⟨r2,hr2,h⟩:=aG h
 refine rr [] [(1,vb r1),(5,vb r2)] [] [2] [] [(2,vb (bif r1 then r2 else false))] [] [_,((r1==true)=true->CX Tryd.prog 40 [.str a0.aQ] (vb r2))] (ax.cons (c1 (wX n a0 _ hr1)) (ax.cons (fun hg=>cx (pV n a0.aQ _ (iZ hg hr2))) ax.nil)) (To.aj (Wp.ret ?_))
 cases h
 exact To.done hΓ (by kernel_rfl)
def iW(n:Nat)(v3:Ls)(v6:List (aT))(v7:Int)(v8:Int):Option ((Ls)) :=
 if(decide (0<=v8/\v8<(List.length v6:Int)))=true then((lI n ((v6)[Int.toNat v8]?.getD (aT.mk [] [] false))).bind fun r1 =>
 if r1=true then(if(decide ((List.length v3+List.length ([((v6)[Int.toNat v8]?.getD (aT.mk [] [] false)).aQ]:Ls))*(16+1)<=limit))=true then(some (v3++([((v6)[Int.toNat v8]?.getD (aT.mk [] [] false)).aQ]:Ls))) else none)
 else some v3) else none
abbrev uX(x0:List (aT))(x1:Int):=([((x0)[Int.toNat x1]?.getD zx1).aQ]:Ls)
abbrev pH(x0:List (aT))(x1:Int):=((x0)[Int.toNat x1]?.getD zx1)
theorem rI(n:Nat)(v3:Ls)(v6:List (aT))(v7:Int)(v8:Int)(o:(Ls))(h:iW n v3 v6 v7 v8=some o)(hQ:To 22 F0 w0 [(3,.row 1003),(6,rs7 v6),(7,vi v7),(8,vi v8)] [(1003,9,[bu o])] .normal Q):Wp Tryd.prog 22 F0 w0 [(3,.row 1003),(6,rs7 v6),(7,vi v7),(8,vi v8)] [(1003,9,[bu v3])] (cA (cB (cB (cI (cI (cB (cA (cB (cB (cF Tryd.f26)))))))))) Q:=by
 unfold iW at h
 refine Wp.block (Wp.seq ?_)
 obtain⟨hc3,h⟩:=bg h
 refine r0 [3,5,6,7,8] [5,1003] [(3,.row 1003),(5,.own 5 0),(6,rs7 v6),(7,vi v7),(8,vi v8)] [(5,70,[.str ((pH v6 v8).aQ),.str ((pH v6 v8).dZ),vb ((pH v6 v8).mX)]),(1003,9,[bu v3])] (ax.cons hc3 ax.nil) (To.aj (Wp.seq ?_))
 obtain⟨r1,hr1,h⟩:=aG h
 refine rc [] 1 [3,5,6,7,8,13] [5,1003] [(3,.row 1003),(5,.own 5 0),(6,rs7 v6),(7,vi v7),(8,vi v8),(13,vb r1)] [(5,70,[.str ((pH v6 v8).aQ),.str ((pH v6 v8).dZ),vb ((pH v6 v8).mX)]),(1003,9,[bu v3])] (wM n (pH v6 v8) _ hr1) (To.aj (cn h (fun h=>?_) (fun h=>?_)))
 ·obtain⟨hc2,h⟩:=bg h
  refine rr [] [(3,ls ([(pH v6 v8).aQ])),(4,ls (v3++(uX v6 v8)))] [] [3,6,7,8] [18] [(3,.row 18),(6,rs7 v6),(7,vi v7),(8,vi v8)] [(18,9,[bu (v3++(uX v6 v8))])] [(iC 1 [.str ((pH v6 v8).aQ)] 1 (ls ([(pH v6 v8).aQ]))/\bP (ls ([(pH v6 v8).aQ]))),_,(oL [] aO v3 (List.flatMap aO (uX v6 v8)) (List.length (uX v6 v8)) (ls (v3++(uX v6 v8)))/\bP (ls (v3++(uX v6 v8))))] (ax.cons (nD (by kernel_rfl) rfl (by kernel_rfl) (bp _)) (ax.cons hc2 (ax.cons (oQ rfl rfl (bp _)) ax.nil))) (To.bT (nt [3,6,7,8] [18] [(18,1003)] [3,6,7,8] [1003] [(3,.row 1003),(6,rs7 v6),(7,vi v7),(8,vi v8)] [(1003,9,[bu (v3++(uX v6 v8))])] ?_))
  cases h
  exact hQ
 ·refine Wp.skip (To.bT (kt [3,6,7,8] [1003] [(3,.row 1003),(6,rs7 v6),(7,vi v7),(8,vi v8)] [(1003,9,[bu v3])] ?_))
  cases h
  exact hQ
def dF(n:Nat)(v6:List (aT))(v7:Int):Nat->(Ls)->Int->Option ((Ls))
 |0,_,_=>none
 |k+1,v3,v8=>if(decide (v8<v7))=true then((iW n v3 v6 v7 v8).bind fun o1 =>
 dF n v6 v7 k o1 (IntKind.wrap .i64 (v8+1)))
 else some v3
theorem rJ(n:Nat)(v6:List (aT))(v7:Int)(k:Nat):∀(v3:Ls)(v8:Int)(o:(Ls)),dF n v6 v7 k v3 v8=some o->To 22 F0 w0 [(3,.row 1003)] [(1003,9,[bu o])] (.exit 0) Q->WL Tryd.prog 22 F0 w0 [(3,.row 1003),(6,rs7 v6),(7,vi v7),(8,vi v8)] [(1003,9,[bu v3])] (cI (cI (cB (cA (cB (cB (cF Tryd.f26))))))) Q:=by
 induction k with
 |zero=>intro v3 v8 o h;cases h
 |succ k ih =>
  intro v3 v8 o h hQ
  rw[dF] at h
  refine WL.round (Wp.seq (rg [3,6,7,8,9] [1003] [(3,.row 1003),(6,rs7 v6),(7,vi v7),(8,vi v8),(9,vb (decide (v8<v7)))] [(1003,9,[bu v3])] (To.aj (Wp.seq (cn h (fun h=>?_) (fun h=>?_))))))
  ·refine Wp.skip (To.aj (Wp.seq ?_))
   obtain⟨o1,ho1,h⟩:=aG h
   refine kw [3,6,7,8] [1003] [(3,.row 1003),(6,rs7 v6),(7,vi v7),(8,vi v8)] [(1003,9,[bu v3])] (rI n v3 v6 v7 v8 o1 ho1 (To.aj (rg [3,6,7,8] [1003] [(3,.row 1003),(6,rs7 v6),(7,vi v7),(rO v8)] [(1003,9,[bu o1])] (kt [3,6,7,8] [1003] [(3,.row 1003),(6,rs7 v6),(7,vi v7),(rO v8)] [(1003,9,[bu o1])] (To.again ?_)))))
   exact ih o1 (IntKind.wrap .i64 (v8+1)) _ h hQ
  ·refine Wp.exit (To.aZ (To.aZ (kt [3] [1003] [(3,.row 1003)] [(1003,9,[bu v3])] ?_)))
   cases h
   exact hQ
def j4(n:Nat)(a0:List (aT)):Option ((Ls)) :=
 (dF n a0 (List.length a0:Int) n ([]:Ls) 0).bind fun o1 =>
 (fy n o1).bind fun r2 =>
 some r2
theorem uN(n:Nat)(a0:List (aT))(r:(Ls))(h:j4 n a0=some r):bq Tryd.prog 26 [rs7 a0] (ls r):=by
 unfold j4 at h
 refine xo Tryd.f26 rfl fun F0 w0 _=>?_
 refine Wp.seq (rg [0] [] [(0,rs7 a0)] [] (To.aj (Wp.seq (rg [0,3] [] [(0,rs7 a0),(3,.val (.slice none 0 0))] [] (To.aj (Wp.seq (Wp.seq (rg [3,6,7,8] [] [(3,.val (.slice none 0 0)),(6,rs7 a0),(7,vi (List.length a0:Int)),(8,vi 0)] [] (To.aj (Wp.block ?_))))))))))
 obtain⟨o1,ho1,h⟩:=aG h
 refine kw [3,6,7,8] [] [(3,.val (.slice none 0 0)),(6,rs7 a0),(7,vi (List.length a0:Int)),(8,vi 0)] [] (Wp.pre (St.qo (t:=3) (k:=1003) (e:=9) (K':=[(3,.row 1003),(6,rs7 a0),(7,vi (List.length a0:Int)),(8,vi 0)]) (bp _) (by decide) (by kernel_rfl) (by kernel_rfl)) (kw [3,6,7,8] [1003] [(3,.row 1003),(6,rs7 a0),(7,vi (List.length a0:Int)),(8,vi 0)] [(1003,9,[bu []])] (Wp.dE (rJ n a0 (List.length a0:Int) n ([]:Ls) 0 o1 ho1 (To.cH (To.aj (Wp.seq ?_)))))))
 obtain⟨r2,hr2,h⟩:=aG h
 refine rc [(1,[1003])] 1 [2] [] [(2,ls r2)] [] (kU n o1 _ hr2) (To.aj (Wp.ret ?_))
 cases h
 exact To.done hΓ (by kernel_rfl)
def fq(n:Nat)(v3:Ls)(v12:List (aL))(v13:Int)(b4:aD)(b5:aC)(b6:aF):Nat->Int->Option (Sum (Unit) (Bool))
 |0,_=>none
 |k+1,v14=>if(decide (v14<v13))=true then(if(decide (0<=v14/\v14<(List.length v12:Int)))=true then((iy n b5.ai (((v12)[Int.toNat v14]?.getD (aL.mk [] 0 false false)).bC)).bind fun r1 =>
 ((if((!r1)==true)=true then iy n v3 (((v12)[Int.toNat v14]?.getD (aL.mk [] 0 false false)).bC) else some false)).bind fun r2 =>
 if(bif (!r1) then(!r2) else false)=true then(some (.inr true))
 else(fq n v3 v12 v13 b4 b5 b6 k (IntKind.wrap .i64 (v14+1)))) else none)
 else(some (.inl ()))
theorem rL(n:Nat)(v3:Ls)(v12:List (aL))(v13:Int)(b4:aD)(b5:aC)(b6:aF)(k:Nat):∀(v14:Int)(o:Sum (Unit) (Bool)),fq n v3 v12 v13 b4 b5 b6 k v14=some o->(Sum.elim (fun s=>To 49 F0 w0 [(4,.own 4 0),(6,.own 6 0)] [(4,25,aM b4),(6,35,(au b6))] (.exit 0) Q) (fun s=>To 49 F0 w0 [(8,vb s)] [] .ret Q)) o->WL Tryd.prog 49 F0 w0 [(3,ls v3),(4,.own 4 0),(5,.own 5 0),(6,.own 6 0),(12,rs8 v12),(13,vi v13),(14,vi v14)] [(4,25,aM b4),(5,51,[ls b5.ai,.aI none true (α:=af) aK ak b5.aH]),(6,35,(au b6))] (cI (cI (cB (cA (cB (cF Tryd.f18)))))) Q:=by
 induction k with
 |zero=>intro v14 o h;cases h
 |succ k ih =>
  intro v14 o h hQ
  rw[fq] at h
  refine WL.round (Wp.seq (rg [3,4,5,6,12,13,14,15] [4,5,6] [(3,ls v3),(4,.own 4 0),(5,.own 5 0),(6,.own 6 0),(12,rs8 v12),(13,vi v13),(14,vi v14),(15,vb (decide (v14<v13)))] [(4,25,aM b4),(5,51,[ls b5.ai,.aI none true (α:=af) aK ak b5.aH]),(6,35,(au b6))] (To.aj (Wp.seq (cn h (fun h=>?_) (fun h=>?_))))))
  ·refine Wp.skip (To.aj (Wp.seq (Wp.block (Wp.seq ?_))))
   obtain⟨hc3,h⟩:=bg h
   refine r0 [3,4,5,6,10,12,13,14] [4,5,6,10] [(3,ls v3),(4,.own 4 0),(5,.own 5 0),(6,.own 6 0),(10,.own 10 0),(12,rs8 v12),(13,vi v13),(14,vi v14)] [(4,25,aM b4),(5,51,[ls b5.ai,.aI none true (α:=af) aK ak b5.aH]),(6,35,(au b6)),(DR v12 v14)] (ax.cons hc3 ax.nil) (To.aj (Wp.seq ?_))
   obtain⟨r1,hr1,h⟩:=aG h
   obtain⟨r2,hr2,h⟩:=aG h
   refine rr [] [(4,vb r1),(10,vb r2)] [] [3,4,5,6,12,13,14,30] [4,5,6] [(3,ls v3),(4,.own 4 0),(5,.own 5 0),(6,.own 6 0),(12,rs8 v12),(13,vi v13),(14,vi v14),(30,vb (bif (!r1) then(!r2) else false))] [(4,25,aM b4),(5,51,[ls b5.ai,.aI none true (α:=af) aK ak b5.aH]),(6,35,(au b6))] [_,(((!r1)==true)=true->CX Tryd.prog 20 [ls v3,.str ((mM v12 v14).bC)] (vb r2))] (ax.cons (c1 (gU n b5.ai ((mM v12 v14).bC) _ hr1)) (ax.cons (fun hg=>cx (gU n v3 ((mM v12 v14).bC) _ (iZ hg hr2))) ax.nil)) (To.aj (cn h (fun h=>?_) (fun h=>?_)))
   ·refine Wp.seq (rg [8] [] [(8,vb true)] [] (To.aj (Wp.ret (To.bH (To.aX (To.aX ?_))))))
    cases h
    exact hQ
   ·refine Wp.skip (To.bT (To.aj (rg [3,4,5,6,12,13,14] [4,5,6] [(3,ls v3),(4,.own 4 0),(5,.own 5 0),(6,.own 6 0),(12,rs8 v12),(13,vi v13),(14,vi (IntKind.wrap .i64 (v14+1)))] [(4,25,aM b4),(5,51,[ls b5.ai,.aI none true (α:=af) aK ak b5.aH]),(6,35,(au b6))] (kt [3,4,5,6,12,13,14] [4,5,6] [(3,ls v3),(4,.own 4 0),(5,.own 5 0),(6,.own 6 0),(12,rs8 v12),(13,vi v13),(14,vi (IntKind.wrap .i64 (v14+1)))] [(4,25,aM b4),(5,51,[ls b5.ai,.aI none true (α:=af) aK ak b5.aH]),(6,35,(au b6))] (To.again ?_)))))
    exact ih (IntKind.wrap .i64 (v14+1)) _ h hQ
  ·refine Wp.exit (To.aZ (To.aZ (kt [4,6] [4,6] [(4,.own 4 0),(6,.own 6 0)] [(4,25,aM b4),(6,35,(au b6))] ?_)))
   cases h
   exact hQ
def ki(n:Nat)(a0:aD)(a1:aC)(a2:aF)(a3:Ls):Option (Bool) :=
 (fq n a3 a2.aV (List.length a2.aV:Int) a0 a1 a2 n 0).bind fun o1 =>
 (Sum.elim (fun o1=>(jI n a2.bZ a0.bZ).bind fun r2 =>
 ((if((decide ((List.length r2:Int)>0))==false)=true then j4 n a2.bG else some [])).bind fun r3 =>
 ((if((decide ((List.length r2:Int)>0))==false)=true then jI n r3 a0.j6 else some [])).bind fun r4 =>
 some (bif (decide ((List.length r2:Int)>0)) then true else(decide ((List.length r4:Int)>0)))) (fun o1=>some o1)) o1
theorem uV(n:Nat)(a0:aD)(a1:aC)(a2:aF)(a3:Ls)(r:Bool)(h:ki n a0 a1 a2 a3=some r):bq Tryd.prog 18 [.agg (aM a0),.agg [ls a1.ai,.aI none true (α:=af) aK ak a1.aH],.agg (qc9 a2),ls a3] (vb r):=by
 unfold ki at h
 refine xo Tryd.f18 rfl fun F0 w0 _=>?_
 refine Wp.seq (rg [3,4,5,6] [4,5,6] [(3,ls a3),(4,.own 4 0),(5,.own 5 0),(6,.own 6 0)] [(4,25,aM a0),(5,51,[ls a1.ai,.aI none true (α:=af) aK ak a1.aH]),(6,35,(au a2))] (To.aj (Wp.seq (Wp.seq (rg [3,4,5,6,12,13,14] [4,5,6] [(3,ls a3),(4,.own 4 0),(5,.own 5 0),(6,.own 6 0),(12,rs8 a2.aV),(13,vi (List.length a2.aV:Int)),(14,vi 0)] [(4,25,aM a0),(5,51,[ls a1.ai,.aI none true (α:=af) aK ak a1.aH]),(6,35,(au a2))] (To.aj (Wp.block ?_)))))))
 obtain⟨o1,ho1,h⟩:=aG h
 refine kw [3,4,5,6,12,13,14] [4,5,6] [(3,ls a3),(4,.own 4 0),(5,.own 5 0),(6,.own 6 0),(12,rs8 a2.aV),(13,vi (List.length a2.aV:Int)),(14,vi 0)] [(4,25,aM a0),(5,51,[ls a1.ai,.aI none true (α:=af) aK ak a1.aH]),(6,35,(au a2))] (Wp.dE (rL n a3 a2.aV (List.length a2.aV:Int) a0 a1 a2 n 0 o1 ho1 ?_))
 rcases o1 with o1|o1
 ·replace h:=ij h
  refine To.cH (To.aj (Wp.seq ?_))
  obtain⟨r2,hr2,h⟩:=aG h
  obtain⟨r3,hr3,h⟩:=aG h
  obtain⟨r4,hr4,h⟩:=aG h
  refine Wp.kZ hm hΓ [(4,ls r2),(10,ls r3),(13,ls r4)] [8] [] (K':=[(8,vb (bif (decide ((List.length r2:Int)>0)) then true else(decide ((List.length r4:Int)>0))))]) (L':=[]) (ob:=[(true=true->CX Tryd.prog 25 [ls a2.bZ,ls a0.bZ] (ls r2)),(((decide ((List.length r2:Int)>0))==false)=true->CX Tryd.prog 26 [rs7 a2.bG] (ls r3)),(((decide ((List.length r2:Int)>0))==false)=true->CX Tryd.prog 25 [ls r3,ls a0.j6] (ls r4))]) (by kernel_rfl) (ax.cons (fun _=>cx (pU n a2.bZ a0.bZ _ hr2)) (ax.cons (fun hg=>cx (uN n a2.bG _ (iZ hg hr3))) (ax.cons (fun hg=>cx (pU n r3 a0.j6 _ (iZ hg hr4))) ax.nil))) (To.aj (Wp.ret ?_))
  cases h
  exact To.done hΓ (by kernel_rfl)
 ·replace h:=il h
  refine To.bH (To.aX ?_)
  cases h
  exact To.done hΓ (by kernel_rfl)
def fK(n:Nat)(a0:aL)(c0:aC)(c1:Ls):Option (Bool) :=
 ((if(a0.fL==true)=true then iy n c0.ai a0.bC else some false)).bind fun r1 =>
 ((if((bif a0.fL then(!r1) else false)==true)=true then iy n c1 a0.bC else some false)).bind fun r2 =>
 some (bif (bif a0.fL then(!r1) else false) then r2 else false)
abbrev Gj(x:aL):List D:=[.str x.bC,vi x.qy,vb x.dX,vb x.fL]
theorem oI(n:Nat)(a0:aL)(c0:aC)(c1:Ls)(r:Bool)(h:fK n a0 c0 c1=some r):bq Tryd.prog 28 [.agg (Gj a0),.el [ls c0.ai,.aI none true (α:=af) aK ak c0.aH],.el [ls c1]] (vb r):=by
 unfold fK at h
 refine xo Tryd.f28 rfl fun F0 w0 _=>?_
 refine Wp.seq (rg [1,2,3] [3] [(1,.el [ls c0.ai,.aI none true (α:=af) aK ak c0.aH]),(2,.el [ls c1]),(3,.own 3 0)] [(3,46,Gj a0)] (To.aj (Wp.seq ?_)))
 obtain⟨r1,hr1,h⟩:=aG h
 obtain⟨r2,hr2,h⟩:=aG h
 refine rr [] [(7,vb r1),(14,vb r2)] [] [4] [] [(4,vb (bif (bif a0.fL then(!r1) else false) then r2 else false))] [] [((a0.fL==true)=true->CX Tryd.prog 20 [ls c0.ai,.str a0.bC] (vb r1)),(((bif a0.fL then(!r1) else false)==true)=true->CX Tryd.prog 20 [ls c1,.str a0.bC] (vb r2))] (ax.cons (fun hg=>cx (gU n c0.ai a0.bC _ (iZ hg hr1))) (ax.cons (fun hg=>cx (gU n c1 a0.bC _ (iZ hg hr2))) ax.nil)) (To.aj (Wp.ret ?_))
 cases h
 exact To.done hΓ (by kernel_rfl)
def aN(n:Nat)(v0:List (aL))(v1_0:aC)(v1_1:Ls)(v7:Int):Nat->Int->Option (Sum (Unit) (Int))
 |0,_=>none
 |k+1,v8=>if(decide (v8<v7))=true then(if(decide (0<=v8/\v8<(List.length v0:Int)))=true then((fK n ((v0)[Int.toNat v8]?.getD (aL.mk [] 0 false false)) v1_0 v1_1).bind fun r1 =>
 if r1=true then(some (.inr v8))
 else(aN n v0 v1_0 v1_1 v7 k (IntKind.wrap .i64 (v8+1)))) else none)
 else(some (.inl ()))
theorem gI(n:Nat)(v0:List (aL))(v1_0:aC)(v1_1:Ls)(v7:Int)(k:Nat):∀(v8:Int)(o:Sum (Unit) (Int)),aN n v0 v1_0 v1_1 v7 k v8=some o->(Sum.elim (fun s=>To 19 F0 w0 [] [] (.exit 0) Q) (fun s=>To 19 F0 w0 [(4,vi s)] [] .ret Q)) o->WL Tryd.prog 19 F0 w0 [(0,rs8 v0),(1,.fn 28 [.el [ls v1_0.ai,.aI none true (α:=af) aK ak v1_0.aH],.el [ls v1_1]]),(7,vi v7),(8,vi v8)] [] (cI (cI (cB (cA (cB (cF Tryd.f35)))))) Q:=by
 induction k with
 |zero=>intro v8 o h;cases h
 |succ k ih =>
  intro v8 o h hQ
  rw[aN] at h
  refine WL.round (Wp.seq (rg [0,1,7,8,9] [] [(0,rs8 v0),(1,.fn 28 [.el [ls v1_0.ai,.aI none true (α:=af) aK ak v1_0.aH],.el [ls v1_1]]),(7,vi v7),(8,vi v8),(9,vb (decide (v8<v7)))] [] (To.aj (Wp.seq (cn h (fun h=>?_) (fun h=>?_))))))
  ·refine Wp.skip (To.aj (Wp.seq (Wp.block (Wp.seq (rg [0,1,5,7,8] [] [(0,rs8 v0),(1,.fn 28 [.el [ls v1_0.ai,.aI none true (α:=af) aK ak v1_0.aH],.el [ls v1_1]]),(5,vi v8),(7,vi v7),(8,vi v8)] [] (To.aj (Wp.seq ?_)))))))
   obtain⟨hc2,h⟩:=bg h
   obtain⟨r1,hr1,h⟩:=aG h
   refine rr [] [(5,vb r1)] [] [0,1,5,7,8,16] [] [(0,rs8 v0),(1,.fn 28 [.el [ls v1_0.ai,.aI none true (α:=af) aK ak v1_0.aH],.el [ls v1_1]]),(5,vi v8),(7,vi v7),(8,vi v8),(16,vb r1)] [] [_,_] (ax.cons hc2 (ax.cons (c1 (oI n (mM v0 v8) v1_0 v1_1 _ hr1)) ax.nil)) (To.aj (cn h (fun h=>?_) (fun h=>?_)))
   ·refine Wp.seq (rg [4] [] [(4,vi v8)] [] (To.aj (Wp.ret (To.bH (To.aX (To.aX ?_))))))
    cases h
    exact hQ
   ·refine Wp.skip (To.bT (To.aj (rg [0,1,7,8] [] [(0,rs8 v0),(1,.fn 28 [.el [ls v1_0.ai,.aI none true (α:=af) aK ak v1_0.aH],.el [ls v1_1]]),(7,vi v7),(rO v8)] [] (kt [0,1,7,8] [] [(0,rs8 v0),(1,.fn 28 [.el [ls v1_0.ai,.aI none true (α:=af) aK ak v1_0.aH],.el [ls v1_1]]),(7,vi v7),(rO v8)] [] (To.again ?_)))))
    exact ih (IntKind.wrap .i64 (v8+1)) _ h hQ
  ·refine Wp.exit (To.aZ (To.aZ (kt [] [] [] [] ?_)))
   cases h
   exact hQ
def bQ(n:Nat)(a0:List (aL))(c0:aC)(c1:Ls):Option (Int) :=
 (aN n a0 c0 c1 (List.length a0:Int) n 0).bind fun o1 =>
 (Sum.elim (fun o1=>some (-1)) (fun o1=>some o1)) o1
theorem iq(n:Nat)(a0:List (aL))(c0:aC)(c1:Ls)(r:Int)(h:bQ n a0 c0 c1=some r):bq Tryd.prog 35 [rs8 a0,.fn 28 [.el [ls c0.ai,.aI none true (α:=af) aK ak c0.aH],.el [ls c1]]] (vi r):=by
 unfold bQ at h
 refine xo Tryd.f35 rfl fun F0 w0 _=>?_
 refine Wp.seq (rg [0,1] [] [(0,rs8 a0),(1,.fn 28 [.el [ls c0.ai,.aI none true (α:=af) aK ak c0.aH],.el [ls c1]])] [] (To.aj (Wp.seq (Wp.seq (rg [0,1,7,8] [] [(0,rs8 a0),(1,.fn 28 [.el [ls c0.ai,.aI none true (α:=af) aK ak c0.aH],.el [ls c1]]),(7,vi (List.length a0:Int)),(8,vi 0)] [] (To.aj (Wp.block ?_)))))))
 obtain⟨o1,ho1,h⟩:=aG h
 refine kw [0,1,7,8] [] [(0,rs8 a0),(1,.fn 28 [.el [ls c0.ai,.aI none true (α:=af) aK ak c0.aH],.el [ls c1]]),(7,vi (List.length a0:Int)),(8,vi 0)] [] (Wp.dE (gI n a0 c0 c1 (List.length a0:Int) n 0 o1 ho1 ?_))
 rcases o1 with o1|o1
 ·replace h:=ij h
  refine To.cH (To.aj (Wp.seq (rg [4] [] [(4,vi (-1))] [] (To.aj (Wp.ret ?_)))))
  cases h
  exact To.done hΓ (by kernel_rfl)
 ·replace h:=il h
  refine To.bH (To.aX ?_)
  cases h
  exact To.done hΓ (by kernel_rfl)
def bI(n:Nat)(a0:List (aL))(c0:aC)(c1:Ls):Option (Bool) :=
 (bQ n a0 c0 c1).bind fun r1 =>
 some (decide (r1>=0))
theorem gW(n:Nat)(a0:List (aL))(c0:aC)(c1:Ls)(r:Bool)(h:bI n a0 c0 c1=some r):bq Tryd.prog 27 [rs8 a0,.fn 28 [.el [ls c0.ai,.aI none true (α:=af) aK ak c0.aH],.el [ls c1]]] (vb r):=by
 unfold bI at h
 refine xo Tryd.f27 rfl fun F0 w0 _=>?_
 refine Wp.seq (rg [0,1] [] [(0,rs8 a0),(1,.fn 28 [.el [ls c0.ai,.aI none true (α:=af) aK ak c0.aH],.el [ls c1]])] [] (To.aj (Wp.seq ?_)))
 obtain⟨r1,hr1,h⟩:=aG h
 refine rc [] 2 [4] [] [(4,vb (decide (r1>=0)))] [] (iq n a0 c0 c1 _ hr1) (To.aj (Wp.ret ?_))
 cases h
 exact To.done hΓ (by kernel_rfl)
def iV(n:Nat)(a0:aC)(a1:aF)(a2:Ls):Option (Bool) :=
 (bI n a1.aV a0 a2).bind fun r1 =>
 some r1
theorem ug(n:Nat)(a0:aC)(a1:aF)(a2:Ls)(r:Bool)(h:iV n a0 a1 a2=some r):bq Tryd.prog 19 [.agg [ls a0.ai,.aI none true (α:=af) aK ak a0.aH],.agg (qc9 a1),ls a2] (vb r):=by
 unfold iV at h
 refine xo Tryd.f19 rfl fun F0 w0 _=>?_
 refine Wp.seq (rg [3,4,5] [3,4,5] [(3,.own 3 0),(4,.own 4 0),(5,.own 5 0)] [(3,51,[ls a0.ai,.aI none true (α:=af) aK ak a0.aH]),(4,35,(au a1)),(5,23,[ls a2])] (To.aj (Wp.seq ?_)))
 obtain⟨r1,hr1,h⟩:=aG h
 refine rc [(2,[3,5])] 3 [6] [] [(6,vb r1)] [] (gW n a1.aV a0 a2 _ hr1) (To.aj (Wp.ret ?_))
 cases h
 exact To.done hΓ (by kernel_rfl)
def fU(n:Nat)(v1:Ls)(v16:List (aF))(v17:Int)(b2:aD)(b6:aC):Nat->Int->Option (Sum (Unit) (Bs×Int))
 |0,_=>none
 |k+1,v18=>if(decide (v18<v17))=true then(if(decide (0<=v18/\v18<(List.length v16:Int)))=true then((ki n b2 b6 ((v16)[Int.toNat v18]?.getD aP) v1).bind fun r2 =>
 if r2=true then(some (.inr (((v16)[Int.toNat v18]?.getD aP).aS,7)))
 else(fU n v1 v16 v17 b2 b6 k (IntKind.wrap .i64 (v18+1)))) else none)
 else(some (.inl ()))
theorem ud(n:Nat)(v1:Ls)(v16:List (aF))(v17:Int)(b2:aD)(b6:aC)(k:Nat):∀(v18:Int)(o:Sum (Unit) (Bs×Int)),fU n v1 v16 v17 b2 b6 k v18=some o->(Sum.elim (fun s=>To 61 F0 w0 [(1,ls v1),(2,.own 2 0),(6,.own 6 0)] [(2,25,aM b2),(6,51,[ls b6.ai,.aI none true (α:=af) aK ak b6.aH])] (.exit 0) Q) (fun s=>To 61 F0 w0 [(4,.str s.1),(5,vi s.2)] [] .ret Q)) o->WL Tryd.prog 61 F0 w0 [(1,ls v1),(2,.own 2 0),(6,.own 6 0),(16,dB v16),(17,vi v17),(18,vi v18)] [(2,25,aM b2),(6,51,[ls b6.ai,.aI none true (α:=af) aK ak b6.aH])] (cI (cI (cB (cA (cB (cB (cF Tryd.f6))))))) Q:=by
 induction k with
 |zero=>intro v18 o h;cases h
 |succ k ih =>
  intro v18 o h hQ
  rw[fU] at h
  refine WL.round (Wp.seq (rg [1,2,6,16,17,18,19] [2,6] [(1,ls v1),(2,.own 2 0),(6,.own 6 0),(16,dB v16),(17,vi v17),(18,vi v18),(19,vb (decide (v18<v17)))] [(2,25,aM b2),(6,51,[ls b6.ai,.aI none true (α:=af) aK ak b6.aH])] (To.aj (Wp.seq (cn h (fun h=>?_) (fun h=>?_))))))
  ·refine Wp.skip (To.aj (Wp.seq (Wp.block (Wp.seq ?_))))
   obtain⟨hc3,h⟩:=bg h
   refine r0 [1,2,6,8,16,17,18] [2,6,8] [(1,ls v1),(2,.own 2 0),(6,.own 6 0),(8,.own 8 0),(16,dB v16),(17,vi v17),(18,vi v18)] [(2,25,aM b2),(6,51,[ls b6.ai,.aI none true (α:=af) aK ak b6.aH]),(8,35,(au (jl v16 v18)))] (ax.cons hc3 ax.nil) (To.aj (Wp.seq ?_))
   obtain⟨r2,hr2,h⟩:=aG h
   refine rc [] 4 [1,2,6,8,16,17,18,26] [2,6,8] [(1,ls v1),(2,.own 2 0),(6,.own 6 0),(8,.own 8 0),(16,dB v16),(17,vi v17),(18,vi v18),(26,vb r2)] [(2,25,aM b2),(6,51,[ls b6.ai,.aI none true (α:=af) aK ak b6.aH]),(8,35,(au (jl v16 v18)))] (uV n b2 b6 (jl v16 v18) v1 _ hr2) (To.aj (cn h (fun h=>?_) (fun h=>?_)))
   ·refine Wp.seq (rg [4,5] [] [(4,.str ((jl v16 v18).aS)),(5,vi 7)] [] (To.aj (Wp.ret (To.bH (To.aX (To.aX ?_))))))
    cases h
    exact hQ
   ·refine Wp.skip (To.bT (To.aj (rg [1,2,6,16,17,18] [2,6] [(1,ls v1),(2,.own 2 0),(6,.own 6 0),(16,dB v16),(17,vi v17),(18,vi (IntKind.wrap .i64 (v18+1)))] [(2,25,aM b2),(6,51,[ls b6.ai,.aI none true (α:=af) aK ak b6.aH])] (kt [1,2,6,16,17,18] [2,6] [(1,ls v1),(2,.own 2 0),(6,.own 6 0),(16,dB v16),(17,vi v17),(18,vi (IntKind.wrap .i64 (v18+1)))] [(2,25,aM b2),(6,51,[ls b6.ai,.aI none true (α:=af) aK ak b6.aH])] (To.again ?_)))))
    exact ih (IntKind.wrap .i64 (v18+1)) _ h hQ
  ·refine Wp.exit (To.aZ (To.aZ (kt [1,2,6] [2,6] [(1,ls v1),(2,.own 2 0),(6,.own 6 0)] [(2,25,aM b2),(6,51,[ls b6.ai,.aI none true (α:=af) aK ak b6.aH])] ?_)))
   cases h
   exact hQ
def gq(n:Nat)(v1:Ls)(v31:List (aF))(v32:Int)(b2:aD)(b6:aC):Nat->Int->Option (Sum (Unit) (Bs×Int))
 |0,_=>none
 |k+1,v33=>if(decide (v33<v32))=true then(if(decide (0<=v33/\v33<(List.length v31:Int)))=true then((iV n b6 ((v31)[Int.toNat v33]?.getD aP) v1).bind fun r3 =>
 if r3=true then(some (.inr (((v31)[Int.toNat v33]?.getD aP).aS,8)))
 else(gq n v1 v31 v32 b2 b6 k (IntKind.wrap .i64 (v33+1)))) else none)
 else(some (.inl ()))
theorem tK(n:Nat)(v1:Ls)(v31:List (aF))(v32:Int)(b2:aD)(b6:aC)(k:Nat):∀(v33:Int)(o:Sum (Unit) (Bs×Int)),gq n v1 v31 v32 b2 b6 k v33=some o->(Sum.elim (fun s=>To 61 F0 w0 [(2,.own 2 0),(6,.own 6 0)] [(2,25,aM b2),(6,51,[ls b6.ai,.aI none true (α:=af) aK ak b6.aH])] (.exit 2) Q) (fun s=>To 61 F0 w0 [(4,.str s.1),(5,vi s.2)] [] .ret Q)) o->WL Tryd.prog 61 F0 w0 [(1,ls v1),(2,.own 2 0),(6,.own 6 0),(31,dB v31),(32,vi v32),(33,vi v33)] [(2,25,aM b2),(6,51,[ls b6.ai,.aI none true (α:=af) aK ak b6.aH])] (cI (cI (cB (cA (cB (cB (cB (cF Tryd.f6)))))))) Q:=by
 induction k with
 |zero=>intro v33 o h;cases h
 |succ k ih =>
  intro v33 o h hQ
  rw[gq] at h
  refine WL.round (Wp.seq (rg [1,2,6,31,32,33,34] [2,6] [(1,ls v1),(2,.own 2 0),(6,.own 6 0),(31,dB v31),(32,vi v32),(33,vi v33),(34,vb (decide (v33<v32)))] [(2,25,aM b2),(6,51,[ls b6.ai,.aI none true (α:=af) aK ak b6.aH])] (To.aj (Wp.seq (cn h (fun h=>?_) (fun h=>?_))))))
  ·refine Wp.skip (To.aj (Wp.seq (Wp.block (Wp.seq ?_))))
   obtain⟨hc4,h⟩:=bg h
   refine r0 [1,2,6,10,31,32,33] [2,6,10] [(1,ls v1),(2,.own 2 0),(6,.own 6 0),(10,.own 10 0),(31,dB v31),(32,vi v32),(33,vi v33)] [(2,25,aM b2),(6,51,[ls b6.ai,.aI none true (α:=af) aK ak b6.aH]),(10,35,(au (jl v31 v33)))] (ax.cons hc4 ax.nil) (To.aj (Wp.seq ?_))
   obtain⟨r3,hr3,h⟩:=aG h
   refine rc [] 3 [1,2,6,10,31,32,33,40] [2,6,10] [(1,ls v1),(2,.own 2 0),(6,.own 6 0),(10,.own 10 0),(31,dB v31),(32,vi v32),(33,vi v33),(40,vb r3)] [(2,25,aM b2),(6,51,[ls b6.ai,.aI none true (α:=af) aK ak b6.aH]),(10,35,(au (jl v31 v33)))] (ug n b6 (jl v31 v33) v1 _ hr3) (To.aj (cn h (fun h=>?_) (fun h=>?_)))
   ·refine Wp.seq (rg [4,5] [] [(4,.str ((jl v31 v33).aS)),(5,vi 8)] [] (To.aj (Wp.ret (To.bH (To.aX (To.aX ?_))))))
    cases h
    exact hQ
   ·refine Wp.skip (To.bT (To.aj (rg [1,2,6,31,32,33] [2,6] [(1,ls v1),(2,.own 2 0),(6,.own 6 0),(31,dB v31),(32,vi v32),(33,vi (IntKind.wrap .i64 (v33+1)))] [(2,25,aM b2),(6,51,[ls b6.ai,.aI none true (α:=af) aK ak b6.aH])] (kt [1,2,6,31,32,33] [2,6] [(1,ls v1),(2,.own 2 0),(6,.own 6 0),(31,dB v31),(32,vi v32),(33,vi (IntKind.wrap .i64 (v33+1)))] [(2,25,aM b2),(6,51,[ls b6.ai,.aI none true (α:=af) aK ak b6.aH])] (To.again ?_)))))
    exact ih (IntKind.wrap .i64 (v33+1)) _ h hQ
  ·refine Wp.exit (To.aZ (To.aZ (kt [2,6] [2,6] [(2,.own 2 0),(6,.own 6 0)] [(2,25,aM b2),(6,51,[ls b6.ai,.aI none true (α:=af) aK ak b6.aH])] ?_)))
   cases h
   exact hQ
def dS(n:Nat)(v45:List (aF))(v46:Int)(b6:aC):Nat->Int->Option (Sum (Unit) (Bs×Int))
 |0,_=>none
 |k+1,v47=>if(decide (v47<v46))=true then(if(decide (0<=v47/\v47<(List.length v45:Int)))=true then((eY n b6 (((v45)[Int.toNat v47]?.getD aP).aS)).bind fun r4 =>
 (iy n r4 (((v45)[Int.toNat v47]?.getD aP).aS)).bind fun r5 =>
 if r5=true then(some (.inr (((v45)[Int.toNat v47]?.getD aP).aS,6)))
 else(dS n v45 v46 b6 k (IntKind.wrap .i64 (v47+1)))) else none)
 else(some (.inl ()))
theorem uf(n:Nat)(v45:List (aF))(v46:Int)(b6:aC)(k:Nat):∀(v47:Int)(o:Sum (Unit) (Bs×Int)),dS n v45 v46 b6 k v47=some o->(Sum.elim (fun s=>To 61 F0 w0 [] [] (.exit 4) Q) (fun s=>To 61 F0 w0 [(4,.str s.1),(5,vi s.2)] [] .ret Q)) o->WL Tryd.prog 61 F0 w0 [(6,.own 6 0),(45,dB v45),(46,vi v46),(47,vi v47)] [(6,51,[ls b6.ai,.aI none true (α:=af) aK ak b6.aH])] (cI (cI (cB (cA (cB (cB (cB (cB (cF Tryd.f6))))))))) Q:=by
 induction k with
 |zero=>intro v47 o h;cases h
 |succ k ih =>
  intro v47 o h hQ
  rw[dS] at h
  refine WL.round (Wp.seq (rg [6,45,46,47,48] [6] [(6,.own 6 0),(45,dB v45),(46,vi v46),(47,vi v47),(48,vb (decide (v47<v46)))] [(6,51,[ls b6.ai,.aI none true (α:=af) aK ak b6.aH])] (To.aj (Wp.seq (cn h (fun h=>?_) (fun h=>?_))))))
  ·refine Wp.skip (To.aj (Wp.seq (Wp.block (Wp.seq ?_))))
   obtain⟨hc6,h⟩:=bg h
   refine r0 [6,12,45,46,47] [6,12] [(6,.own 6 0),(12,.own 12 0),(45,dB v45),(46,vi v46),(47,vi v47)] [(6,51,[ls b6.ai,.aI none true (α:=af) aK ak b6.aH]),(12,35,(au (jl v45 v47)))] (ax.cons hc6 ax.nil) (To.aj (Wp.seq ?_))
   obtain⟨r4,hr4,h⟩:=aG h
   obtain⟨r5,hr5,h⟩:=aG h
   refine Wp.kZ hm hΓ [(3,ls r4),(6,vb r5)] [6,12,45,46,47,57] [6,12] (K':=[(6,.own 6 0),(12,.own 12 0),(45,dB v45),(46,vi v46),(47,vi v47),(57,vb r5)]) (L':=[(6,51,[ls b6.ai,.aI none true (α:=af) aK ak b6.aH]),(12,35,(au (jl v45 v47)))]) (ob:=[(true=true->CX Tryd.prog 21 [.agg [ls b6.ai,.aI none true (α:=af) aK ak b6.aH],.str ((jl v45 v47).aS)] (ls r4)),(true=true->CX Tryd.prog 20 [ls r4,.str ((jl v45 v47).aS)] (vb r5))]) (by kernel_rfl) (ax.cons (fun _=>cx (jk n b6 ((jl v45 v47).aS) _ hr4)) (ax.cons (fun _=>cx (gU n r4 ((jl v45 v47).aS) _ hr5)) ax.nil)) (To.aj (cn h (fun h=>?_) (fun h=>?_)))
   ·refine Wp.seq (rg [4,5] [] [(4,.str ((jl v45 v47).aS)),(5,vi 6)] [] (To.aj (Wp.ret (To.bH (To.aX (To.aX ?_))))))
    cases h
    exact hQ
   ·refine Wp.skip (To.bT (To.aj (rg [6,45,46,47] [6] [(6,.own 6 0),(45,dB v45),(46,vi v46),(47,vi (IntKind.wrap .i64 (v47+1)))] [(6,51,[ls b6.ai,.aI none true (α:=af) aK ak b6.aH])] (kt [6,45,46,47] [6] [(6,.own 6 0),(45,dB v45),(46,vi v46),(47,vi (IntKind.wrap .i64 (v47+1)))] [(6,51,[ls b6.ai,.aI none true (α:=af) aK ak b6.aH])] (To.again ?_)))))
    exact ih (IntKind.wrap .i64 (v47+1)) _ h hQ
  ·refine Wp.exit (To.aZ (To.aZ (kt [] [] [] [] ?_)))
   cases h
   exact hQ
def lM(n:Nat)(a0:aD)(a1:Ls):Option (Bs×Int) :=
 (dQ n a0).bind fun r1 =>
 (fU n a1 a0.av (List.length a0.av:Int) a0 r1 n 0).bind fun o2 =>
 (Sum.elim (fun o2=>(gq n a1 a0.av (List.length a0.av:Int) a0 r1 n 0).bind fun o3 =>
 (Sum.elim (fun o3=>(dS n a0.av (List.length a0.av:Int) r1 n 0).bind fun o4 =>
 (Sum.elim (fun o4=>some ([],0)) (fun o4=>some (o4.1,o4.2))) o4) (fun o3=>some (o3.1,o3.2))) o3) (fun o2=>some (o2.1,o2.2))) o2
theorem xq(n:Nat)(a0:aD)(a1:Ls)(r:Bs×Int)(h:lM n a0 a1=some r):bq Tryd.prog 6 [.agg (aM a0),ls a1] (.tup [.str r.1,vi r.2]):=by
 unfold lM at h
 refine xo Tryd.f6 rfl fun F0 w0 _=>?_
 refine Wp.seq (rg [1,2] [2] [(1,ls a1),(2,.own 2 0)] [(2,25,aM a0)] (To.aj (Wp.seq ?_)))
 obtain⟨r1,hr1,h⟩:=aG h
 refine rc [] 1 [1,2,6] [2,6] [(1,ls a1),(2,.own 2 0),(6,.own 6 0)] [(2,25,aM a0),(6,51,[ls r1.ai,.aI none true (α:=af) aK ak r1.aH])] (ko n a0 _ hr1) (To.aj (Wp.seq (Wp.seq (rg [1,2,6,16,17,18] [2,6] [(1,ls a1),(2,.own 2 0),(6,.own 6 0),(16,dB a0.av),(17,vi (ex5 a0)),(18,vi 0)] [(2,25,aM a0),(6,51,[ls r1.ai,.aI none true (α:=af) aK ak r1.aH])] (To.aj (Wp.block ?_))))))
 obtain⟨o2,ho2,h⟩:=aG h
 refine kw [1,2,6,16,17,18] [2,6] [(1,ls a1),(2,.own 2 0),(6,.own 6 0),(16,dB a0.av),(17,vi (ex5 a0)),(18,vi 0)] [(2,25,aM a0),(6,51,[ls r1.ai,.aI none true (α:=af) aK ak r1.aH])] (Wp.dE (ud n a1 a0.av (ex5 a0) a0 r1 n 0 o2 ho2 ?_))
 rcases o2 with o2|o2
 ·replace h:=ij h
  refine To.cH (To.aj (Wp.seq (Wp.seq (rg [1,2,6,31,32,33] [2,6] [(1,ls a1),(2,.own 2 0),(6,.own 6 0),(31,dB a0.av),(32,vi (ex5 a0)),(33,vi 0)] [(2,25,aM a0),(6,51,[ls r1.ai,.aI none true (α:=af) aK ak r1.aH])] (To.aj (Wp.block ?_))))))
  obtain⟨o3,ho3,h⟩:=aG h
  refine kw [1,2,6,31,32,33] [2,6] [(1,ls a1),(2,.own 2 0),(6,.own 6 0),(31,dB a0.av),(32,vi (ex5 a0)),(33,vi 0)] [(2,25,aM a0),(6,51,[ls r1.ai,.aI none true (α:=af) aK ak r1.aH])] (Wp.dE (tK n a1 a0.av (ex5 a0) a0 r1 n 0 o3 ho3 ?_))
  rcases o3 with o3|o3
  ·replace h:=ij h
   refine To.cH (To.aj (Wp.seq (Wp.seq (rg [6,45,46,47] [6] [(6,.own 6 0),(45,dB a0.av),(46,vi (ex5 a0)),(47,vi 0)] [(6,51,[ls r1.ai,.aI none true (α:=af) aK ak r1.aH])] (To.aj (Wp.block ?_))))))
   obtain⟨o4,ho4,h⟩:=aG h
   refine kw [6,45,46,47] [6] [(6,.own 6 0),(45,dB a0.av),(46,vi (ex5 a0)),(47,vi 0)] [(6,51,[ls r1.ai,.aI none true (α:=af) aK ak r1.aH])] (Wp.dE (uf n a0.av (ex5 a0) r1 n 0 o4 ho4 ?_))
   rcases o4 with o4|o4
   ·replace h:=ij h
    refine To.cH (To.aj (Wp.seq (rg [4,5] [] [(4,.str []),(5,vi 0)] [] (To.aj (Wp.ret ?_)))))
    cases h
    exact To.done hΓ (by kernel_rfl)
   ·replace h:=il h
    refine To.bH (To.aX ?_)
    cases h
    exact To.done hΓ (by kernel_rfl)
  ·replace h:=il h
   refine To.bH (To.aX ?_)
   cases h
   exact To.done hΓ (by kernel_rfl)
 ·replace h:=il h
  refine To.bH (To.aX ?_)
  cases h
  exact To.done hΓ (by kernel_rfl)
def jo(n:Nat)(v0:Ls)(v1:Bs):Nat->Int->Option (Sum (Unit) (Int))
 |0,_=>none
 |k+1,v5=>if(decide (v5<(List.length v0:Int)))=true then(if(decide (0<=v5/\v5<(List.length v0:Int)))=true then(if(((v0)[Int.toNat v5]?.getD [])==v1)=true then(some (.inr v5))
 else(jo n v0 v1 k (IntKind.wrap .i64 (v5+1)))) else none)
 else(some (.inl ()))
theorem wW(n:Nat)(v0:Ls)(v1:Bs)(k:Nat):∀(v5:Int)(o:Sum (Unit) (Int)),jo n v0 v1 k v5=some o->(Sum.elim (fun s=>To 19 F0 w0 [] [] (.exit 0) Q) (fun s=>To 19 F0 w0 [(4,vi s)] [] .ret Q)) o->WL Tryd.prog 19 F0 w0 [(0,ls v0),(1,.str v1),(5,vi v5)] [] (cI (cI (cB (cA (cB (cF Tryd.f9)))))) Q:=by
 induction k with
 |zero=>intro v5 o h;cases h
 |succ k ih =>
  intro v5 o h hQ
  rw[jo] at h
  refine WL.round (Wp.seq (Wp.seq (rg [0,1,5,9] [] [(0,ls v0),(1,.str v1),(5,vi v5),(9,vb (ex8 v5 v0))] [] (To.aj (cn h (fun h=>?_) (fun h=>?_))))))
  ·refine Wp.skip (To.aj (Wp.seq (Wp.block (Wp.seq ?_))))
   obtain⟨hc1,h⟩:=bg h
   refine r0 [0,1,5,17] [] [(0,ls v0),(1,.str v1),(5,vi v5),(17,vb (((v0)[Int.toNat v5]?.getD [])==v1))] [] (ax.cons hc1 ax.nil) (To.aj (cn h (fun h=>?_) (fun h=>?_)))
   ·refine Wp.seq (rg [4] [] [(4,vi v5)] [] (To.aj (Wp.ret (To.bH (To.aX (To.aX ?_))))))
    cases h
    exact hQ
   ·refine Wp.skip (To.bT (To.aj (rg [0,1,5] [] [(0,ls v0),(1,.str v1),(ex2 v5)] [] (kt [0,1,5] [] [(0,ls v0),(1,.str v1),(ex2 v5)] [] (To.again ?_)))))
    exact ih (IntKind.wrap .i64 (v5+1)) _ h hQ
  ·refine Wp.exit (To.aZ (To.aZ (kt [] [] [] [] ?_)))
   cases h
   exact hQ
def pq(n:Nat)(a0:Ls)(a1:Bs):Option (Int) :=
 (jo n a0 a1 n 0).bind fun o1 =>
 (Sum.elim (fun o1=>some (-1)) (fun o1=>some o1)) o1
theorem zR(n:Nat)(a0:Ls)(a1:Bs)(r:Int)(h:pq n a0 a1=some r):bq Tryd.prog 9 [ls a0,.str a1] (vi r):=by
 unfold pq at h
 refine xo Tryd.f9 rfl fun F0 w0 _=>?_
 refine Wp.seq (rg [0,1] [] [(0,ls a0),(1,.str a1)] [] (To.aj (Wp.seq (Wp.seq (rg [0,1,5] [] [(0,ls a0),(1,.str a1),(5,vi 0)] [] (To.aj (Wp.block ?_)))))))
 obtain⟨o1,ho1,h⟩:=aG h
 refine kw [0,1,5] [] [(0,ls a0),(1,.str a1),(5,vi 0)] [] (Wp.dE (wW n a0 a1 n 0 o1 ho1 ?_))
 rcases o1 with o1|o1
 ·replace h:=ij h
  refine To.cH (To.aj (Wp.seq (rg [4] [] [(4,vi (-1))] [] (To.aj (Wp.ret ?_)))))
  cases h
  exact To.done hΓ (by kernel_rfl)
 ·replace h:=il h
  refine To.bH (To.aX ?_)
  cases h
  exact To.done hΓ (by kernel_rfl)
def jF(n:Nat)(v1:Bs)(v6:Ls)(v12:Ls)(v13:Int)(v14:Int)(b5:aC):Option ((Ls)) :=
 if(decide (0<=v14/\v14<(List.length v12:Int)))=true then((eY n b5 ((v12)[Int.toNat v14]?.getD [])).bind fun r2 =>
 (iy n r2 v1).bind fun r3 =>
 if r3=true then(if(decide ((List.length v6+List.length ([((v12)[Int.toNat v14]?.getD [])]:Ls))*(16+1)<=limit))=true then(some (v6++([((v12)[Int.toNat v14]?.getD [])]:Ls))) else none)
 else some v6) else none
theorem tH(n:Nat)(v1:Bs)(v6:Ls)(v12:Ls)(v13:Int)(v14:Int)(b5:aC)(o:(Ls))(h:jF n v1 v6 v12 v13 v14 b5=some o)(hQ:To 29 F0 w0 [(1,.str v1),(5,.own 5 0),(6,.row 1006),(12,ls v12),(13,vi v13),(14,vi v14)] [(5,51,[ls b5.ai,.aI none true (α:=af) aK ak b5.aH]),(1006,9,[bu o])] .normal Q):Wp Tryd.prog 29 F0 w0 [(1,.str v1),(5,.own 5 0),(6,.row 1006),(12,ls v12),(13,vi v13),(14,vi v14)] [(5,51,[ls b5.ai,.aI none true (α:=af) aK ak b5.aH]),(1006,9,[bu v6])] (cA (cB (cB (cI (cI (cB (cA (cB (cB (cB (cF Tryd.f12))))))))))) Q:=by
 unfold jF at h
 refine Wp.block (Wp.seq ?_)
 obtain⟨hc5,h⟩:=bg h
 refine r0 [1,5,6,8,12,13,14] [5,1006] [(1,.str v1),(5,.own 5 0),(6,.row 1006),(8,.str (cq v12 v14)),(12,ls v12),(13,vi v13),(14,vi v14)] [(5,51,[ls b5.ai,.aI none true (α:=af) aK ak b5.aH]),(1006,9,[bu v6])] (ax.cons hc5 ax.nil) (To.aj (Wp.seq ?_))
 obtain⟨r2,hr2,h⟩:=aG h
 obtain⟨r3,hr3,h⟩:=aG h
 refine rr [] [(2,ls r2),(4,vb r3)] [] [1,5,6,8,12,13,14,22] [5,1006] [(1,.str v1),(5,.own 5 0),(6,.row 1006),(8,.str (cq v12 v14)),(12,ls v12),(13,vi v13),(14,vi v14),(22,vb r3)] [(5,51,[ls b5.ai,.aI none true (α:=af) aK ak b5.aH]),(1006,9,[bu v6])] [_,_] (ax.cons (c1 (jk n b5 (cq v12 v14) _ hr2)) (ax.cons (c1 (gU n r2 v1 _ hr3)) ax.nil)) (To.aj (cn h (fun h=>?_) (fun h=>?_)))
 ·obtain⟨hc4,h⟩:=bg h
  refine rr [] [(2,ls ([(cq v12 v14)])),(3,ls (v6++(nz v12 v14)))] [] [1,5,6,12,13,14] [5,26] [(1,.str v1),(5,.own 5 0),(6,.row 26),(12,ls v12),(13,vi v13),(14,vi v14)] [(5,51,[ls b5.ai,.aI none true (α:=af) aK ak b5.aH]),(26,9,[bu (v6++(nz v12 v14))])] [(DU v12 v14),_,(Ee v6 v12 v14)] (ax.cons (nD (by kernel_rfl) rfl (by kernel_rfl) (bp _)) (ax.cons hc4 (ax.cons (oQ rfl rfl (bp _)) ax.nil))) (To.bT (nt [1,5,6,12,13,14] [5,26] [(26,1006)] [1,5,6,12,13,14] [5,1006] [(1,.str v1),(5,.own 5 0),(6,.row 1006),(12,ls v12),(13,vi v13),(14,vi v14)] [(5,51,[ls b5.ai,.aI none true (α:=af) aK ak b5.aH]),(1006,9,[bu (v6++(nz v12 v14))])] ?_))
  cases h
  exact hQ
 ·refine Wp.skip (To.bT (kt [1,5,6,12,13,14] [5,1006] [(1,.str v1),(5,.own 5 0),(6,.row 1006),(12,ls v12),(13,vi v13),(14,vi v14)] [(5,51,[ls b5.ai,.aI none true (α:=af) aK ak b5.aH]),(1006,9,[bu v6])] ?_))
  cases h
  exact hQ
def eG(n:Nat)(v1:Bs)(v12:Ls)(v13:Int)(b5:aC):Nat->(Ls)->Int->Option ((Ls))
 |0,_,_=>none
 |k+1,v6,v14=>if(decide (v14<v13))=true then((jF n v1 v6 v12 v13 v14 b5).bind fun o2 =>
 eG n v1 v12 v13 b5 k o2 (IntKind.wrap .i64 (v14+1)))
 else some v6
theorem tW(n:Nat)(v1:Bs)(v12:Ls)(v13:Int)(b5:aC)(k:Nat):∀(v6:Ls)(v14:Int)(o:(Ls)),eG n v1 v12 v13 b5 k v6 v14=some o->To 29 F0 w0 [(6,.row 1006)] [(1006,9,[bu o])] (.exit 0) Q->WL Tryd.prog 29 F0 w0 [(1,.str v1),(5,.own 5 0),(6,.row 1006),(12,ls v12),(13,vi v13),(14,vi v14)] [(5,51,[ls b5.ai,.aI none true (α:=af) aK ak b5.aH]),(1006,9,[bu v6])] (cI (cI (cB (cA (cB (cB (cB (cF Tryd.f12)))))))) Q:=by
 induction k with
 |zero=>intro v6 v14 o h;cases h
 |succ k ih =>
  intro v6 v14 o h hQ
  rw[eG] at h
  refine WL.round (Wp.seq (rg [1,5,6,12,13,14,15] [5,1006] [(1,.str v1),(5,.own 5 0),(6,.row 1006),(12,ls v12),(13,vi v13),(14,vi v14),(15,vb (decide (v14<v13)))] [(5,51,[ls b5.ai,.aI none true (α:=af) aK ak b5.aH]),(1006,9,[bu v6])] (To.aj (Wp.seq (cn h (fun h=>?_) (fun h=>?_))))))
  ·refine Wp.skip (To.aj (Wp.seq ?_))
   obtain⟨o2,ho2,h⟩:=aG h
   refine kw [1,5,6,12,13,14] [5,1006] [(1,.str v1),(5,.own 5 0),(6,.row 1006),(12,ls v12),(13,vi v13),(14,vi v14)] [(5,51,[ls b5.ai,.aI none true (α:=af) aK ak b5.aH]),(1006,9,[bu v6])] (tH n v1 v6 v12 v13 v14 b5 o2 ho2 (To.aj (rg [1,5,6,12,13,14] [5,1006] [(1,.str v1),(5,.own 5 0),(6,.row 1006),(12,ls v12),(13,vi v13),(14,vi (IntKind.wrap .i64 (v14+1)))] [(5,51,[ls b5.ai,.aI none true (α:=af) aK ak b5.aH]),(1006,9,[bu o2])] (kt [1,5,6,12,13,14] [5,1006] [(1,.str v1),(5,.own 5 0),(6,.row 1006),(12,ls v12),(13,vi v13),(14,vi (IntKind.wrap .i64 (v14+1)))] [(5,51,[ls b5.ai,.aI none true (α:=af) aK ak b5.aH]),(1006,9,[bu o2])] (To.again ?_)))))
   exact ih o2 (IntKind.wrap .i64 (v14+1)) _ h hQ
  ·refine Wp.exit (To.aZ (To.aZ (kt [6] [1006] [(6,.row 1006)] [(1006,9,[bu v6])] ?_)))
   cases h
   exact hQ
def lQ(n:Nat)(a0:aD)(a1:Bs):Option ((Ls)) :=
 (dQ n a0).bind fun r1 =>
 (eG n a1 r1.ai (List.length r1.ai:Int) r1 n ([]:Ls) 0).bind fun o2 =>
 some o2
theorem xn(n:Nat)(a0:aD)(a1:Bs)(r:(Ls))(h:lQ n a0 a1=some r):bq Tryd.prog 12 [.agg (aM a0),.str a1] (ls r):=by
 unfold lQ at h
 refine xo Tryd.f12 rfl fun F0 w0 _=>?_
 refine Wp.seq (rg [1,2] [2] [(1,.str a1),(2,.own 2 0)] [(2,25,aM a0)] (To.aj (Wp.seq ?_)))
 obtain⟨r1,hr1,h⟩:=aG h
 refine rc [] 1 [1,5] [5] [(1,.str a1),(5,.own 5 0)] [(5,51,[ls r1.ai,.aI none true (α:=af) aK ak r1.aH])] (ko n a0 _ hr1) (To.aj (Wp.seq (rg [1,5,6] [5] [(1,.str a1),(5,.own 5 0),(6,.val (.slice none 0 0))] [(5,51,[ls r1.ai,.aI none true (α:=af) aK ak r1.aH])] (To.aj (Wp.seq (Wp.seq (rg [1,5,6,12,13,14] [5] [(1,.str a1),(5,.own 5 0),(6,.val (.slice none 0 0)),(12,ls r1.ai),(13,vi (List.length r1.ai:Int)),(14,vi 0)] [(5,51,[ls r1.ai,.aI none true (α:=af) aK ak r1.aH])] (To.aj (Wp.block ?_)))))))))
 obtain⟨o2,ho2,h⟩:=aG h
 refine kw [1,5,6,12,13,14] [5] [(1,.str a1),(5,.own 5 0),(6,.val (.slice none 0 0)),(12,ls r1.ai),(13,vi (List.length r1.ai:Int)),(14,vi 0)] [(5,51,[ls r1.ai,.aI none true (α:=af) aK ak r1.aH])] (Wp.pre (St.qo (t:=6) (k:=1006) (e:=9) (K':=[(1,.str a1),(5,.own 5 0),(6,.row 1006),(12,ls r1.ai),(13,vi (List.length r1.ai:Int)),(14,vi 0)]) (bp _) (by decide) (by kernel_rfl) (by kernel_rfl)) (kw [1,5,6,12,13,14] [5,1006] [(1,.str a1),(5,.own 5 0),(6,.row 1006),(12,ls r1.ai),(13,vi (List.length r1.ai:Int)),(14,vi 0)] [(5,51,[ls r1.ai,.aI none true (α:=af) aK ak r1.aH]),(1006,9,[bu []])] (Wp.dE (tW n a1 r1.ai (List.length r1.ai:Int) r1 n ([]:Ls) 0 o2 ho2 (To.cH (To.aj (Wp.seq (rg [4] [1006] [(4,.row 1006)] [(1006,9,[bu o2])] (To.aj (Wp.ret ?_))))))))))
 refine To.pre (St.settle (ks:=[1006]) (kk:=[4]) (kl:=[1006]) (K':=[(4,.row 1006)]) (L':=[(1006,9,[dM o2])]) (by kernel_rfl)) (To.pre (St.yr [4] (K':=[(4,ls o2)]) (by kernel_rfl)) ?_)
 cases h
 exact To.done hΓ (by kernel_rfl)
def jr(n:Nat)(v0:Ls)(v1:Bs):Nat->Int->Option (Sum (Unit) (Bool))
 |0,_=>none
 |k+1,v5=>if(decide (v5<(List.length v0:Int)))=true then(if(decide (0<=v5/\v5<(List.length v0:Int)))=true then(if(((v0)[Int.toNat v5]?.getD [])==v1)=true then(some (.inr true))
 else(jr n v0 v1 k (IntKind.wrap .i64 (v5+1)))) else none)
 else(some (.inl ()))
theorem xB(n:Nat)(v0:Ls)(v1:Bs)(k:Nat):∀(v5:Int)(o:Sum (Unit) (Bool)),jr n v0 v1 k v5=some o->(Sum.elim (fun s=>To 18 F0 w0 [] [] (.exit 0) Q) (fun s=>To 18 F0 w0 [(4,vb s)] [] .ret Q)) o->WL Tryd.prog 18 F0 w0 [(0,ls v0),(1,.str v1),(5,vi v5)] [] (cI (cI (cB (cA (cB (cF Tryd.f11)))))) Q:=by
 induction k with
 |zero=>intro v5 o h;cases h
 |succ k ih =>
  intro v5 o h hQ
  rw[jr] at h
  refine WL.round (Wp.seq (Wp.seq (rg [0,1,5,9] [] [(0,ls v0),(1,.str v1),(5,vi v5),(9,vb (ex8 v5 v0))] [] (To.aj (cn h (fun h=>?_) (fun h=>?_))))))
  ·refine Wp.skip (To.aj (Wp.seq (Wp.block (Wp.seq ?_))))
   obtain⟨hc1,h⟩:=bg h
   refine r0 [0,1,5,17] [] [(0,ls v0),(1,.str v1),(5,vi v5),(17,vb (((v0)[Int.toNat v5]?.getD [])==v1))] [] (ax.cons hc1 ax.nil) (To.aj (cn h (fun h=>?_) (fun h=>?_)))
   ·refine Wp.seq (rg [4] [] [(4,vb true)] [] (To.aj (Wp.ret (To.bH (To.aX (To.aX ?_))))))
    cases h
    exact hQ
   ·refine Wp.skip (To.bT (To.aj (rg [0,1,5] [] [(0,ls v0),(1,.str v1),(ex2 v5)] [] (kt [0,1,5] [] [(0,ls v0),(1,.str v1),(ex2 v5)] [] (To.again ?_)))))
    exact ih (IntKind.wrap .i64 (v5+1)) _ h hQ
  ·refine Wp.exit (To.aZ (To.aZ (kt [] [] [] [] ?_)))
   cases h
   exact hQ
def nH(n:Nat)(a0:Ls)(a1:Bs):Option (Bool) :=
 (jr n a0 a1 n 0).bind fun o1 =>
 (Sum.elim (fun o1=>some false) (fun o1=>some o1)) o1
theorem zw(n:Nat)(a0:Ls)(a1:Bs)(r:Bool)(h:nH n a0 a1=some r):bq Tryd.prog 11 [ls a0,.str a1] (vb r):=by
 unfold nH at h
 refine xo Tryd.f11 rfl fun F0 w0 _=>?_
 refine Wp.seq (rg [0,1] [] [(0,ls a0),(1,.str a1)] [] (To.aj (Wp.seq (Wp.seq (rg [0,1,5] [] [(0,ls a0),(1,.str a1),(5,vi 0)] [] (To.aj (Wp.block ?_)))))))
 obtain⟨o1,ho1,h⟩:=aG h
 refine kw [0,1,5] [] [(0,ls a0),(1,.str a1),(5,vi 0)] [] (Wp.dE (xB n a0 a1 n 0 o1 ho1 ?_))
 rcases o1 with o1|o1
 ·replace h:=ij h
  refine To.cH (To.aj (Wp.seq (rg [4] [] [(4,vb false)] [] (To.aj (Wp.ret ?_)))))
  cases h
  exact To.done hΓ (by kernel_rfl)
 ·replace h:=il h
  refine To.bH (To.aX ?_)
  cases h
  exact To.done hΓ (by kernel_rfl)
def np(n:Nat)(a0:aD)(a1:Bs):Option (Bool) :=
 (dQ n a0).bind fun r1 =>
 (eY n r1 a1).bind fun r2 =>
 (iy n r2 a1).bind fun r3 =>
 some r3
theorem yl(n:Nat)(a0:aD)(a1:Bs)(r:Bool)(h:np n a0 a1=some r):bq Tryd.prog 13 [.agg (aM a0),.str a1] (vb r):=by
 unfold np at h
 refine xo Tryd.f13 rfl fun F0 w0 _=>?_
 refine Wp.seq (rg [1,2] [2] [(1,.str a1),(2,.own 2 0)] [(2,25,aM a0)] (To.aj (Wp.seq ?_)))
 obtain⟨r1,hr1,h⟩:=aG h
 obtain⟨r2,hr2,h⟩:=aG h
 obtain⟨r3,hr3,h⟩:=aG h
 refine rr [] [(1,.agg [ls r1.ai,.aI none true (α:=af) aK ak r1.aH]),(3,ls r2),(5,vb r3)] [] [4] [] [(4,vb r3)] [] [_,_,_] (ax.cons (c1 (ko n a0 _ hr1)) (ax.cons (c1 (jk n r1 a1 _ hr2)) (ax.cons (c1 (gU n r2 a1 _ hr3)) ax.nil))) (To.aj (Wp.ret ?_))
 cases h
 exact To.done hΓ (by kernel_rfl)
def cy(n:Nat)(v3:Int)(b1:aD):Nat->Int->Option (Sum (Unit) (Bool))
 |0,_=>none
 |k+1,v4=>if(decide (v4<v3))=true then(if(decide (0<=v3/\v3<(List.length b1.av:Int)))=true then(if(decide (0<=v4/\v4<(List.length b1.av:Int)))=true then(kE (((((b1.av)[Int.toNat v3]?.getD aP).aS)==(((b1.av)[Int.toNat v4]?.getD aP).aS)):Bool) fun x3 =>
 if x3=true then((gy n).bind fun r4 =>
 some (.inr r4))
 else(cy n v3 b1 k (IntKind.wrap .i64 (v4+1)))) else none) else none)
 else(some (.inl ()))
theorem qa(n:Nat)(v3:Int)(b1:aD)(k:Nat):∀(v4:Int)(o:Sum (Unit) (Bool)),cy n v3 b1 k v4=some o->(Sum.elim (fun s=>To 143 F0 w0 [(1,.own 1 0),(3,vi v3)] [(1,25,aM b1)] (.exit 2) Q) (fun s=>To 143 F0 w0 [(2,vb s)] [] .ret Q)) o->WL Tryd.prog 143 F0 w0 [(1,.own 1 0),(3,vi v3),(4,vi v4)] [(1,25,aM b1)] (cI (cI (cB (cI (cA (cB (cI (cI (cB (cA (cB (cB (cF Tryd.f3))))))))))))) Q:=by
 induction k with
 |zero=>intro v4 o h;cases h
 |succ k ih =>
  intro v4 o h hQ
  rw[cy] at h
  refine WL.round (Wp.seq (Wp.seq (rg [1,3,4,25] [1] [(1,.own 1 0),(3,vi v3),(4,vi v4),(25,vb (decide (v4<v3)))] [(1,25,aM b1)] (To.aj (cn h (fun h=>?_) (fun h=>?_))))))
  ·refine Wp.skip (To.aj (Wp.seq (Wp.block (Wp.seq ?_))))
   obtain⟨hc5,h⟩:=bg h
   obtain⟨hc6,h⟩:=bg h
   obtain⟨x3,hx3,h⟩:=kC h
   refine Wp.kZ hm hΓ [] [1,3,4,40] [1] (K':=[(1,.own 1 0),(3,vi v3),(4,vi v4),(40,vb (((ex4 b1 v3).aS)==((ex4 b1 v4).aS)))]) (L':=[(1,25,aM b1)]) (ob:=[(decide (0<=v3/\v3<(ex5 b1)))=true,(decide (0<=v4/\v4<(ex5 b1)))=true]) (by kernel_rfl) (ax.cons hc5 (ax.cons hc6 ax.nil)) (To.eq (K':=[(1,.own 1 0),(3,vi v3),(4,vi v4),(40,vb x3)]) (L':=[(1,25,aM b1)]) (by cases hx3;rfl) (by cases hx3;rfl) (To.aj (cn h (fun h=>?_) (fun h=>?_))))
   ·refine Wp.seq ?_
    obtain⟨r4,hr4,h⟩:=aG h
    refine rc [] 0 [2] [] [(2,vb r4)] [] (kT n  _ hr4) (To.aj (Wp.ret (To.bH (To.aX (To.aX ?_)))))
    cases h
    exact hQ
   ·refine Wp.skip (To.bT (To.aj (rg [1,3,4] [1] [(1,.own 1 0),(3,vi v3),(4,vi (IntKind.wrap .i64 (v4+1)))] [(1,25,aM b1)] (kt [1,3,4] [1] [(1,.own 1 0),(3,vi v3),(4,vi (IntKind.wrap .i64 (v4+1)))] [(1,25,aM b1)] (To.again ?_)))))
    exact ih (IntKind.wrap .i64 (v4+1)) _ h hQ
  ·refine Wp.exit (To.aZ (To.aZ (kt [1,3] [1] [(1,.own 1 0),(3,vi v3)] [(1,25,aM b1)] ?_)))
   cases h
   exact hQ
def cv(n:Nat)(b1:aD):Nat->Int->Option (Sum (Unit) (Bool))
 |0,_=>none
 |k+1,v3=>if(decide (v3<(List.length b1.av:Int)))=true then((cy n v3 b1 n 0).bind fun o3 =>
 (Sum.elim (fun o3=>cv n b1 k (IntKind.wrap .i64 (v3+1))) (fun o3=>some (.inr o3))) o3)
 else(some (.inl ()))
theorem ql(n:Nat)(b1:aD)(k:Nat):∀(v3:Int)(o:Sum (Unit) (Bool)),cv n b1 k v3=some o->(Sum.elim (fun s=>To 143 F0 w0 [(1,.own 1 0)] [(1,25,aM b1)] (.exit 0) Q) (fun s=>To 143 F0 w0 [(2,vb s)] [] .ret Q)) o->WL Tryd.prog 143 F0 w0 [(1,.own 1 0),(3,vi v3)] [(1,25,aM b1)] (cI (cI (cB (cA (cB (cB (cF Tryd.f3))))))) Q:=by
 induction k with
 |zero=>intro v3 o h;cases h
 |succ k ih =>
  intro v3 o h hQ
  rw[cv] at h
  refine WL.round (Wp.seq (Wp.seq (rg [1,3,20] [1] [(1,.own 1 0),(3,vi v3),(20,vb (decide (v3<(ex5 b1))))] [(1,25,aM b1)] (To.aj (cn h (fun h=>?_) (fun h=>?_))))))
  ·refine Wp.skip (To.aj (Wp.seq (Wp.block (Wp.seq (rg [1,3,4] [1] [(1,.own 1 0),(3,vi v3),(4,vi 0)] [(1,25,aM b1)] (To.aj (Wp.block ?_)))))))
   obtain⟨o3,ho3,h⟩:=aG h
   refine kw [1,3,4] [1] [(1,.own 1 0),(3,vi v3),(4,vi 0)] [(1,25,aM b1)] (Wp.dE (qa n v3 b1 n 0 o3 ho3 ?_))
   rcases o3 with o3|o3
   ·replace h:=ij h
    refine To.cH (To.bT (To.aj (rg [1,3] [1] [(1,.own 1 0),(ex1 v3)] [(1,25,aM b1)] (kt [1,3] [1] [(1,.own 1 0),(ex1 v3)] [(1,25,aM b1)] (To.again ?_)))))
    exact ih (IntKind.wrap .i64 (v3+1)) _ h hQ
   ·replace h:=il h
    refine To.bH (To.bH (To.aX (To.aX (kt [2] [] [(2,vb o3)] [] ?_))))
    cases h
    exact hQ
  ·refine Wp.exit (To.aZ (To.aZ (kt [1] [1] [(1,.own 1 0)] [(1,25,aM b1)] ?_)))
   cases h
   exact hQ
def dK(n:Nat)(v7:Ls)(v8:Int)(v9:Ls)(b1:aD):Nat->Int->Option (Sum (Unit) (Bool))
 |0,_=>none
 |k+1,v10=>if(decide (v10<(List.length v9:Int)))=true then(if(decide (0<=v10/\v10<(List.length v9:Int)))=true then((pq n v7 ((v9)[Int.toNat v10]?.getD [])).bind fun r9 =>
 if((!((bif (decide (r9<0)) then true else(decide (r9>=v8)))==false)||decide (0<=v10/\v10<(List.length v9:Int))))=true then(((if((bif (decide (r9<0)) then true else(decide (r9>=v8)))==false)=true then fu n b1 ((v9)[Int.toNat v10]?.getD []) else some 0)).bind fun r10 =>
 if((!((bif (decide (r9<0)) then true else(decide (r9>=v8)))==false)||decide (0<=v8/\v8<(List.length v7:Int))))=true then(((if((bif (decide (r9<0)) then true else(decide (r9>=v8)))==false)=true then fu n b1 ((v7)[Int.toNat v8]?.getD []) else some 0)).bind fun r11 =>
 if((!((bif (bif (decide (r9<0)) then true else(decide (r9>=v8))) then true else(decide (r10>=r11)))==false)||decide (0<=v10/\v10<(List.length v9:Int))))=true then(((if((bif (bif (decide (r9<0)) then true else(decide (r9>=v8))) then true else(decide (r10>=r11)))==false)=true then lQ n b1 ((v9)[Int.toNat v10]?.getD []) else some [])).bind fun r12 =>
 if((!((bif (bif (decide (r9<0)) then true else(decide (r9>=v8))) then true else(decide (r10>=r11)))==false)||decide (0<=v8/\v8<(List.length v7:Int))))=true then(((if((bif (bif (decide (r9<0)) then true else(decide (r9>=v8))) then true else(decide (r10>=r11)))==false)=true then nH n r12 ((v7)[Int.toNat v8]?.getD []) else some false)).bind fun r13 =>
 kE ((bif (bif (bif (decide (r9<0)) then true else(decide (r9>=v8))) then true else(decide (r10>=r11))) then true else(!r13)):Bool) fun x14 =>
 if x14=true then(some (.inr false))
 else(dK n v7 v8 v9 b1 k (IntKind.wrap .i64 (v10+1)))) else none) else none) else none) else none) else none)
 else(some (.inl ()))
abbrev FQ(x0:Int)(x1:Ls):=(0<=x0/\x0<(List.length x1:Int))
theorem qd(n:Nat)(v7:Ls)(v8:Int)(v9:Ls)(b1:aD)(k:Nat):∀(v10:Int)(o:Sum (Unit) (Bool)),dK n v7 v8 v9 b1 k v10=some o->(Sum.elim (fun s=>To 143 F0 w0 [(1,.own 1 0),(7,ls v7),(8,vi v8)] [(1,25,aM b1)] (.exit 6) Q) (fun s=>To 143 F0 w0 [(2,vb s)] [] .ret Q)) o->WL Tryd.prog 143 F0 w0 [(1,.own 1 0),(7,ls v7),(8,vi v8),(9,ls v9),(10,vi v10)] [(1,25,aM b1)] (cI (cI (cB (cA (cB (cI (cA (cB (cI (cI (cB (cA (cB (cB (cB (cB (cB (cB (cF Tryd.f3))))))))))))))))))) Q:=by
 induction k with
 |zero=>intro v10 o h;cases h
 |succ k ih =>
  intro v10 o h hQ
  rw[dK] at h
  refine WL.round (Wp.seq (Wp.seq (rg [1,7,8,9,10,82] [1] [(1,.own 1 0),(7,ls v7),(8,vi v8),(9,ls v9),(10,vi v10),(82,vb (ex8 v10 v9))] [(1,25,aM b1)] (To.aj (cn h (fun h=>?_) (fun h=>?_))))))
  ·refine Wp.skip (To.aj (Wp.seq (Wp.block (Wp.seq ?_))))
   obtain⟨hc19,h⟩:=bg h
   obtain⟨r9,hr9,h⟩:=aG h
   refine rr [] [(5,vi r9)] [] [1,7,8,9,10,11] [1] [(1,.own 1 0),(7,ls v7),(8,vi v8),(9,ls v9),(10,vi v10),(11,vi r9)] [(1,25,aM b1)] [_,_] (ax.cons hc19 (ax.cons (c1 (zR n v7 (cq v9 v10) _ hr9)) ax.nil)) (To.aj (Wp.seq ?_))
   obtain⟨hc15,h⟩:=bg h
   obtain⟨r10,hr10,h⟩:=aG h
   obtain⟨hc16,h⟩:=bg h
   obtain⟨r11,hr11,h⟩:=aG h
   obtain⟨hc17,h⟩:=bg h
   obtain⟨r12,hr12,h⟩:=aG h
   obtain⟨hc18,h⟩:=bg h
   obtain⟨r13,hr13,h⟩:=aG h
   obtain⟨x14,hx14,h⟩:=kC h
   refine Wp.kZ hm hΓ [(13,vi r10),(19,vi r11),(28,ls r12),(33,vb r13)] [1,7,8,9,10,126] [1] (K':=[(1,.own 1 0),(7,ls v7),(8,vi v8),(9,ls v9),(10,vi v10),(126,vb (bif (bif (bif (decide (r9<0)) then true else(decide (r9>=v8))) then true else(decide (r10>=r11))) then true else(!r13)))]) (L':=[(1,25,aM b1)]) (ob:=[(!((bif (decide (r9<0)) then true else(decide (r9>=v8)))==false)||decide (0<=v10/\v10<(List.length v9:Int)))=true,(((bif (decide (r9<0)) then true else(decide (r9>=v8)))==false)=true->CX Tryd.prog 10 [.agg (aM b1),.str (cq v9 v10)] (vi r10)),(!((bif (decide (r9<0)) then true else(decide (r9>=v8)))==false)||decide (FQ v8 v7))=true,(((bif (decide (r9<0)) then true else(decide (r9>=v8)))==false)=true->CX Tryd.prog 10 [.agg (aM b1),.str ((v7)[Int.toNat v8]?.getD [])] (vi r11)),(!((bif (bif (decide (r9<0)) then true else(decide (r9>=v8))) then true else(decide (r10>=r11)))==false)||decide (0<=v10/\v10<(List.length v9:Int)))=true,(((bif (bif (decide (r9<0)) then true else(decide (r9>=v8))) then true else(decide (r10>=r11)))==false)=true->CX Tryd.prog 12 [.agg (aM b1),.str (cq v9 v10)] (ls r12)),(!((bif (bif (decide (r9<0)) then true else(decide (r9>=v8))) then true else(decide (r10>=r11)))==false)||decide (FQ v8 v7))=true,(((bif (bif (decide (r9<0)) then true else(decide (r9>=v8))) then true else(decide (r10>=r11)))==false)=true->CX Tryd.prog 11 [ls r12,.str ((v7)[Int.toNat v8]?.getD [])] (vb r13))]) (by kernel_rfl) (ax.cons hc15 (ax.cons (fun hg=>cx (lg n b1 (cq v9 v10) _ (iZ hg hr10))) (ax.cons hc16 (ax.cons (fun hg=>cx (lg n b1 ((v7)[Int.toNat v8]?.getD []) _ (iZ hg hr11))) (ax.cons hc17 (ax.cons (fun hg=>cx (xn n b1 (cq v9 v10) _ (iZ hg hr12))) (ax.cons hc18 (ax.cons (fun hg=>cx (zw n r12 ((v7)[Int.toNat v8]?.getD []) _ (iZ hg hr13))) ax.nil)))))))) (To.eq (K':=[(1,.own 1 0),(7,ls v7),(8,vi v8),(9,ls v9),(10,vi v10),(126,vb x14)]) (L':=[(1,25,aM b1)]) (by cases hx14;rfl) (by cases hx14;rfl) (To.aj (cn h (fun h=>?_) (fun h=>?_))))
   ·refine Wp.seq (rg [2] [] [(2,vb false)] [] (To.aj (Wp.ret (To.bH (To.aX (To.aX ?_))))))
    cases h
    exact hQ
   ·refine Wp.skip (To.bT (To.aj (rg [1,7,8,9,10] [1] [(1,.own 1 0),(7,ls v7),(8,vi v8),(9,ls v9),(10,vi (IntKind.wrap .i64 (v10+1)))] [(1,25,aM b1)] (kt [1,7,8,9,10] [1] [(1,.own 1 0),(7,ls v7),(8,vi v8),(9,ls v9),(10,vi (IntKind.wrap .i64 (v10+1)))] [(1,25,aM b1)] (To.again ?_)))))
    exact ih (IntKind.wrap .i64 (v10+1)) _ h hQ
  ·refine Wp.exit (To.aZ (To.aZ (kt [1,7,8] [1] [(1,.own 1 0),(7,ls v7),(8,vi v8)] [(1,25,aM b1)] ?_)))
   cases h
   exact hQ
def dJ(n:Nat)(v7:Ls)(b1:aD):Nat->Int->Option (Sum (Unit) (Bool))
 |0,_=>none
 |k+1,v8=>if(decide (v8<(List.length v7:Int)))=true then(if(decide (0<=v8/\v8<(List.length v7:Int)))=true then((iF n b1 ((v7)[Int.toNat v8]?.getD [])).bind fun r8 =>
 (dK n v7 v8 r8 b1 n 0).bind fun o9 =>
 (Sum.elim (fun o9=>if(decide (0<=v8/\v8<(List.length v7:Int)))=true then((np n b1 ((v7)[Int.toNat v8]?.getD [])).bind fun r10 =>
 if((!(r10==false)||decide (0<=v8/\v8<(List.length v7:Int))))=true then(((if(r10==false)=true then fu n b1 ((v7)[Int.toNat v8]?.getD []) else some 0)).bind fun r11 =>
 if(bif r10 then true else(decide (r11<0)))=true then(some (.inr false))
 else(dJ n v7 b1 k (IntKind.wrap .i64 (v8+1)))) else none) else none) (fun o9=>some (.inr o9))) o9) else none)
 else(some (.inl ()))
theorem qf(n:Nat)(v7:Ls)(b1:aD)(k:Nat):∀(v8:Int)(o:Sum (Unit) (Bool)),dJ n v7 b1 k v8=some o->(Sum.elim (fun s=>To 143 F0 w0 [] [] (.exit 4) Q) (fun s=>To 143 F0 w0 [(2,vb s)] [] .ret Q)) o->WL Tryd.prog 143 F0 w0 [(1,.own 1 0),(7,ls v7),(8,vi v8)] [(1,25,aM b1)] (cI (cI (cB (cA (cB (cB (cB (cB (cB (cB (cF Tryd.f3))))))))))) Q:=by
 induction k with
 |zero=>intro v8 o h;cases h
 |succ k ih =>
  intro v8 o h hQ
  rw[dJ] at h
  refine WL.round (Wp.seq (Wp.seq (rg [1,7,8,70] [1] [(1,.own 1 0),(7,ls v7),(8,vi v8),(70,vb (ex8 v8 v7))] [(1,25,aM b1)] (To.aj (cn h (fun h=>?_) (fun h=>?_))))))
  ·refine Wp.skip (To.aj (Wp.seq (Wp.block (Wp.seq ?_))))
   obtain⟨hc14,h⟩:=bg h
   obtain⟨r8,hr8,h⟩:=aG h
   refine Wp.kZ hm hΓ [(5,ls r8)] [1,7,8,9] [1] (K':=[(1,.own 1 0),(7,ls v7),(8,vi v8),(9,ls r8)]) (L':=[(1,25,aM b1)]) (ob:=[(ex7 v8 v7)=true,(true=true->CX Tryd.prog 8 [.agg (aM b1),.str ((v7)[Int.toNat v8]?.getD [])] (ls r8))]) (by kernel_rfl) (ax.cons hc14 (ax.cons (fun _=>cx (qH n b1 ((v7)[Int.toNat v8]?.getD []) _ hr8)) ax.nil)) (To.aj (Wp.seq (Wp.seq (rg [1,7,8,9,10] [1] [(1,.own 1 0),(7,ls v7),(8,vi v8),(9,ls r8),(10,vi 0)] [(1,25,aM b1)] (To.aj (Wp.block ?_))))))
   obtain⟨o9,ho9,h⟩:=aG h
   refine kw [1,7,8,9,10] [1] [(1,.own 1 0),(7,ls v7),(8,vi v8),(9,ls r8),(10,vi 0)] [(1,25,aM b1)] (Wp.dE (qd n v7 v8 r8 b1 n 0 o9 ho9 ?_))
   rcases o9 with o9|o9
   ·replace h:=ij h
    refine To.cH (To.aj (Wp.seq ?_))
    obtain⟨hc12,h⟩:=bg h
    obtain⟨r10,hr10,h⟩:=aG h
    obtain⟨hc13,h⟩:=bg h
    obtain⟨r11,hr11,h⟩:=aG h
    refine Wp.kZ hm hΓ [(5,vb r10),(12,vi r11)] [1,7,8,141] [1] (K':=[(1,.own 1 0),(7,ls v7),(8,vi v8),(141,vb (bif r10 then true else(decide (r11<0))))]) (L':=[(1,25,aM b1)]) (ob:=[(ex7 v8 v7)=true,(true=true->CX Tryd.prog 13 [.agg (aM b1),.str ((v7)[Int.toNat v8]?.getD [])] (vb r10)),(!(r10==false)||decide (0<=v8/\v8<(List.length v7:Int)))=true,((r10==false)=true->CX Tryd.prog 10 [.agg (aM b1),.str ((v7)[Int.toNat v8]?.getD [])] (vi r11))]) (by kernel_rfl) (ax.cons hc12 (ax.cons (fun _=>cx (yl n b1 ((v7)[Int.toNat v8]?.getD []) _ hr10)) (ax.cons hc13 (ax.cons (fun hg=>cx (lg n b1 ((v7)[Int.toNat v8]?.getD []) _ (iZ hg hr11))) ax.nil)))) (To.aj (cn h (fun h=>?_) (fun h=>?_)))
    ·refine Wp.seq (rg [2] [] [(2,vb false)] [] (To.aj (Wp.ret (To.bH (To.aX (To.aX ?_))))))
     cases h
     exact hQ
    ·refine Wp.skip (To.bT (To.aj (rg [1,7,8] [1] [(1,.own 1 0),(7,ls v7),(rO v8)] [(1,25,aM b1)] (kt [1,7,8] [1] [(1,.own 1 0),(7,ls v7),(rO v8)] [(1,25,aM b1)] (To.again ?_)))))
     exact ih (IntKind.wrap .i64 (v8+1)) _ h hQ
   ·replace h:=il h
    refine To.bH (To.aX (To.bH (To.aX (To.aX (kt [2] [] [(2,vb o9)] [] ?_)))))
    cases h
    exact hQ
  ·refine Wp.exit (To.aZ (To.aZ (kt [] [] [] [] ?_)))
   cases h
   exact hQ
def jU(n:Nat)(a0:aD):Option (Bool) :=
 (lH n a0).bind fun r1 =>
 if(!r1)=true then((gy n).bind fun r2 =>
 some r2)
 else((cv n a0 n 0).bind fun o3 =>
 (Sum.elim (fun o3=>(lM n a0 []).bind fun r4 =>
 if(r4.2 != 0)=true then((dT n a0).bind fun r5 =>
 ((if((decide ((List.length r5:Int)<=(List.length a0.av:Int)))==true)=true then gy n else some false)).bind fun r6 =>
 some (bif (decide ((List.length r5:Int)<=(List.length a0.av:Int))) then r6 else false))
 else((dT n a0).bind fun r7 =>
 if((List.length r7:Int) != (List.length a0.av:Int))=true then some false
 else((dJ n r7 a0 n 0).bind fun o8 =>
 (Sum.elim (fun o8=>(gy n).bind fun r9 =>
 some r9) (fun o8=>some o8)) o8))) (fun o3=>some o3)) o3)
theorem rM(n:Nat)(a0:aD)(r:Bool)(h:jU n a0=some r):bq Tryd.prog 3 [.agg (aM a0)] (vb r):=by
 unfold jU at h
 refine xo Tryd.f3 rfl fun F0 w0 _=>?_
 refine Wp.seq (rg [1] [1] [(1,.own 1 0)] [(1,25,aM a0)] (To.aj (Wp.seq (Wp.seq ?_))))
 obtain⟨r1,hr1,h⟩:=aG h
 refine rc [] 1 [1,14] [1] [(1,.own 1 0),(14,vb (!r1))] [(1,25,aM a0)] (wY n a0 _ hr1) (To.aj (cn h (fun h=>?_) (fun h=>?_)))
 ·refine Wp.seq ?_
  obtain⟨r2,hr2,h⟩:=aG h
  refine rc [] 0 [2] [] [(2,vb r2)] [] (kT n  _ hr2) (To.aj (Wp.ret (To.aX ?_)))
  cases h
  exact To.done hΓ (by kernel_rfl)
 ·refine Wp.skip (To.aj (Wp.seq (Wp.seq (rg [1,3] [1] [(1,.own 1 0),(3,vi 0)] [(1,25,aM a0)] (To.aj (Wp.block ?_))))))
  obtain⟨o3,ho3,h⟩:=aG h
  refine kw [1,3] [1] [(1,.own 1 0),(3,vi 0)] [(1,25,aM a0)] (Wp.dE (ql n a0 n 0 o3 ho3 ?_))
  rcases o3 with o3|o3
  ·replace h:=ij h
   refine To.cH (To.aj (Wp.seq (Wp.seq ?_)))
   obtain⟨r4,hr4,h⟩:=aG h
   refine rr [] [(1,.tup [.str r4.1,vi r4.2])] [] [1,6] [1] [(1,.own 1 0),(6,vi r4.2)] [(1,25,aM a0)] [(true=true->CX Tryd.prog 6 [.agg (aM a0),.val (.slice none 0 0)] (.tup [.str r4.1,vi r4.2]))] (ax.cons (fun _=>cx (lL (.cons (.refl _) (.cons (.zero _ _) .nil)) (xq n a0 [] _ hr4))) ax.nil) (To.aj (Wp.seq (rg [1,48] [1] [(1,.own 1 0),(48,vb (r4.2 != 0))] [(1,25,aM a0)] (To.aj (cn h (fun h=>?_) (fun h=>?_))))))
   ·refine Wp.seq ?_
    obtain⟨r5,hr5,h⟩:=aG h
    obtain⟨r6,hr6,h⟩:=aG h
    refine Wp.kZ hm hΓ [(1,ls r5),(8,vb r6)] [2] [] (K':=[(2,vb (bif (decide ((List.length r5:Int)<=(ex5 a0))) then r6 else false))]) (L':=[]) (ob:=[(true=true->CX Tryd.prog 7 [.agg (aM a0)] (ls r5)),(((decide ((List.length r5:Int)<=(ex5 a0)))==true)=true->CX Tryd.prog 5 [] (vb r6))]) (by kernel_rfl) (ax.cons (fun _=>cx (lu n a0 _ hr5)) (ax.cons (fun hg=>cx (kT n  _ (iZ hg hr6))) ax.nil)) (To.aj (Wp.ret (To.aX ?_)))
    cases h
    exact To.done hΓ (by kernel_rfl)
   ·refine Wp.skip (To.aj (Wp.seq ?_))
    obtain⟨r7,hr7,h⟩:=aG h
    refine rc [] 1 [1,7] [1] [(1,.own 1 0),(7,ls r7)] [(1,25,aM a0)] (lu n a0 _ hr7) (To.aj (Wp.seq (Wp.seq (rg [1,7,66] [1] [(1,.own 1 0),(7,ls r7),(66,vb ((List.length r7:Int) != (ex5 a0)))] [(1,25,aM a0)] (To.aj (cn h (fun h=>?_) (fun h=>?_)))))))
    ·refine Wp.seq (rg [2] [] [(2,vb false)] [] (To.aj (Wp.ret (To.aX ?_))))
     cases h
     exact To.done hΓ (by kernel_rfl)
    ·refine Wp.skip (To.aj (Wp.seq (Wp.seq (rg [1,7,8] [1] [(1,.own 1 0),(7,ls r7),(8,vi 0)] [(1,25,aM a0)] (To.aj (Wp.block ?_))))))
     obtain⟨o8,ho8,h⟩:=aG h
     refine kw [1,7,8] [1] [(1,.own 1 0),(7,ls r7),(8,vi 0)] [(1,25,aM a0)] (Wp.dE (qf n r7 a0 n 0 o8 ho8 ?_))
     rcases o8 with o8|o8
     ·replace h:=ij h
      refine To.cH (To.aj (Wp.seq ?_))
      obtain⟨r9,hr9,h⟩:=aG h
      refine rc [] 0 [2] [] [(2,vb r9)] [] (kT n  _ hr9) (To.aj (Wp.ret ?_))
      cases h
      exact To.done hΓ (by kernel_rfl)
     ·replace h:=il h
      refine To.bH (To.aX ?_)
      cases h
      exact To.done hΓ (by kernel_rfl)
  ·replace h:=il h
   refine To.bH (To.aX ?_)
   cases h
   exact To.done hΓ (by kernel_rfl)
theorem eu:fP Tryd.prog 9 (fun l:Bs=>l.length<=maxLen) (fun l=>[.str l]):=CV (by kernel_rfl)
def oy(l:Ls):Prop:=l.length<=maxLen/\∀x∈l,(List.length x<=maxLen)
theorem lV:fP Tryd.prog 23 oy (fun l=>[.recs (α:=Bs) [] aO l]):=ku (α:=Bs) (cells:=aO) [] (by kernel_rfl) (by kernel_rfl) (of_decide_eq_true (by kernel_rfl)) eu
def xJ(x:bY):Prop:=(List.length x.AV<=maxLen)/\(List.length x.Az<=maxLen)
theorem yq:fP Tryd.prog 136 xJ (fun x=>[.str x.AV,.str x.Az]):=by
 intro H enc W fuel cs d ps h
 obtain⟨hl,hf⟩:=mo Tryd.underlying136 h
 have hl:cs.length=2:=hl.trans (by kernel_rfl)
 obtain⟨x0,w0,r0⟩:=hf 0 _ rfl eu
 have r0:=dD (a':=0) (b':=1) r0 (by kernel_rfl) (by kernel_rfl)
 obtain⟨x1,w1,r1⟩:=hf 1 _ rfl eu
 have r1:=dD (a':=1) (b':=1) r1 (by kernel_rfl) (by kernel_rfl)
 refine⟨⟨x0,x1⟩,⟨w0,w1⟩,?_⟩
 refine parts_all (l:=[([.str x0],1),([.str x1],1)]) ⟨r0,r1,Nat.le_of_eq hl⟩ rfl
def qM(l:List (bY)):Prop:=l.length<=maxLen/\∀x∈l,(xJ x)
theorem qq:fP Tryd.prog 28 qM (fun l=>[.recs (α:=bY) (bY.mk [] []) jj l]):=ku (α:=bY) (cells:=jj) (bY.mk [] []) (by kernel_rfl) (by kernel_rfl) (of_decide_eq_true (by kernel_rfl)) yq
theorem iJ:fP Tryd.prog 3 (fun n:Int=>IntKind.min .i64<=n/\n<=IntKind.max .i64) (fun n=>[.val (.int .i64 n)]):=BL (by kernel_rfl)
def wE(x:cZ):Prop:=(List.length x.qE<=maxLen)/\(IntKind.min .i64<=x.yx/\x.yx<=IntKind.max .i64)/\(IntKind.min .i64<=x.BF/\x.BF<=IntKind.max .i64)/\(List.length x.qJ<=maxLen)
theorem xx:fP Tryd.prog 72 wE (fun x=>[.str x.qE,.val (.int .i64 x.yx),.val (.int .i64 x.BF),.str x.qJ]):=by
 intro H enc W fuel cs d ps h
 obtain⟨hl,hf⟩:=mo Tryd.underlying72 h
 have hl:cs.length=4:=hl.trans (by kernel_rfl)
 obtain⟨x0,w0,r0⟩:=hf 0 _ rfl eu
 have r0:=dD (a':=0) (b':=1) r0 (by kernel_rfl) (by kernel_rfl)
 obtain⟨x1,w1,r1⟩:=hf 1 _ rfl iJ
 have r1:=dD (a':=1) (b':=1) r1 (by kernel_rfl) (by kernel_rfl)
 obtain⟨x2,w2,r2⟩:=hf 2 _ rfl iJ
 have r2:=dD (a':=2) (b':=1) r2 (by kernel_rfl) (by kernel_rfl)
 obtain⟨x3,w3,r3⟩:=hf 3 _ rfl eu
 have r3:=dD (a':=3) (b':=1) r3 (by kernel_rfl) (by kernel_rfl)
 refine⟨⟨x0,x1,x2,x3⟩,⟨w0,w1,w2,w3⟩,?_⟩
 refine parts_all (l:=[([.str x0],1),([.val (.int .i64 x1)],1),([.val (.int .i64 x2)],1),([.str x3],1)]) ⟨r0,r1,r2,r3,Nat.le_of_eq hl⟩ rfl
def uC(l:List (cZ)):Prop:=l.length<=maxLen/\∀x∈l,(wE x)
theorem wA:fP Tryd.prog 29 uC (fun l=>[.recs (α:=cZ) (cZ.mk [] 0 0 []) kW l]):=ku (α:=cZ) (cells:=kW) (cZ.mk [] 0 0 []) (by kernel_rfl) (by kernel_rfl) (of_decide_eq_true (by kernel_rfl)) xx
theorem nj:fP Tryd.prog 4 (fun _:Bool=>True) (fun b=>[.val (.bool b)]):=RX.nj (by kernel_rfl)
def uI(x:aT):Prop:=(List.length x.aQ<=maxLen)/\(List.length x.dZ<=maxLen)/\True
theorem vp:fP Tryd.prog 70 uI (fun x=>[.str x.aQ,.str x.dZ,.val (.bool x.mX)]):=by
 intro H enc W fuel cs d ps h
 obtain⟨hl,hf⟩:=mo Tryd.underlying70 h
 have hl:cs.length=3:=hl.trans (by kernel_rfl)
 obtain⟨x0,w0,r0⟩:=hf 0 _ rfl eu
 have r0:=dD (a':=0) (b':=1) r0 (by kernel_rfl) (by kernel_rfl)
 obtain⟨x1,w1,r1⟩:=hf 1 _ rfl eu
 have r1:=dD (a':=1) (b':=1) r1 (by kernel_rfl) (by kernel_rfl)
 obtain⟨x2,w2,r2⟩:=hf 2 _ rfl nj
 have r2:=dD (a':=2) (b':=1) r2 (by kernel_rfl) (by kernel_rfl)
 refine⟨⟨x0,x1,x2⟩,⟨w0,w1,w2⟩,?_⟩
 refine parts_all (l:=[([.str x0],1),([.str x1],1),([.val (.bool x2)],1)]) ⟨r0,r1,r2,Nat.le_of_eq hl⟩ rfl
def sQ(l:List (aT)):Prop:=l.length<=maxLen/\∀x∈l,(uI x)
theorem u9:fP Tryd.prog 30 sQ (fun l=>[.recs (α:=aT) (aT.mk [] [] false) kD l]):=ku (α:=aT) (cells:=kD) (aT.mk [] [] false) (by kernel_rfl) (by kernel_rfl) (of_decide_eq_true (by kernel_rfl)) vp
def ya(x:aL):Prop:=(List.length x.bC<=maxLen)/\(IntKind.min .i64<=x.qy/\x.qy<=IntKind.max .i64)/\True/\True
theorem yk:fP Tryd.prog 46 ya (fun x=>[.str x.bC,.val (.int .i64 x.qy),.val (.bool x.dX),.val (.bool x.fL)]):=by
 intro H enc W fuel cs d ps h
 obtain⟨hl,hf⟩:=mo Tryd.underlying46 h
 have hl:cs.length=4:=hl.trans (by kernel_rfl)
 obtain⟨x0,w0,r0⟩:=hf 0 _ rfl eu
 have r0:=dD (a':=0) (b':=1) r0 (by kernel_rfl) (by kernel_rfl)
 obtain⟨x1,w1,r1⟩:=hf 1 _ rfl iJ
 have r1:=dD (a':=1) (b':=1) r1 (by kernel_rfl) (by kernel_rfl)
 obtain⟨x2,w2,r2⟩:=hf 2 _ rfl nj
 have r2:=dD (a':=2) (b':=1) r2 (by kernel_rfl) (by kernel_rfl)
 obtain⟨x3,w3,r3⟩:=hf 3 _ rfl nj
 have r3:=dD (a':=3) (b':=1) r3 (by kernel_rfl) (by kernel_rfl)
 refine⟨⟨x0,x1,x2,x3⟩,⟨w0,w1,w2,w3⟩,?_⟩
 refine parts_all (l:=[([.str x0],1),([.val (.int .i64 x1)],1),([.val (.bool x2)],1),([.val (.bool x3)],1)]) ⟨r0,r1,r2,r3,Nat.le_of_eq hl⟩ rfl
def wh(l:List (aL)):Prop:=l.length<=maxLen/\∀x∈l,(ya x)
theorem xr:fP Tryd.prog 31 wh (fun l=>[.recs (α:=aL) (aL.mk [] 0 false false) iK l]):=ku (α:=aL) (cells:=iK) (aL.mk [] 0 false false) (by kernel_rfl) (by kernel_rfl) (of_decide_eq_true (by kernel_rfl)) yk
def uG(x:gx):Prop:=(List.length x.kj<=maxLen)/\(IntKind.min .i64<=x.jE/\x.jE<=IntKind.max .i64)/\(IntKind.min .i64<=x.jB/\x.jB<=IntKind.max .i64)/\(IntKind.min .i64<=x.iH/\x.iH<=IntKind.max .i64)
theorem vA:fP Tryd.prog 33 uG (fun x=>[.str x.kj,.val (.int .i64 x.jE),.val (.int .i64 x.jB),.val (.int .i64 x.iH)]):=by
 intro H enc W fuel cs d ps h
 obtain⟨hl,hf⟩:=mo Tryd.underlying33 h
 have hl:cs.length=4:=hl.trans (by kernel_rfl)
 obtain⟨x0,w0,r0⟩:=hf 0 _ rfl eu
 have r0:=dD (a':=0) (b':=1) r0 (by kernel_rfl) (by kernel_rfl)
 obtain⟨x1,w1,r1⟩:=hf 1 _ rfl iJ
 have r1:=dD (a':=1) (b':=1) r1 (by kernel_rfl) (by kernel_rfl)
 obtain⟨x2,w2,r2⟩:=hf 2 _ rfl iJ
 have r2:=dD (a':=2) (b':=1) r2 (by kernel_rfl) (by kernel_rfl)
 obtain⟨x3,w3,r3⟩:=hf 3 _ rfl iJ
 have r3:=dD (a':=3) (b':=1) r3 (by kernel_rfl) (by kernel_rfl)
 refine⟨⟨x0,x1,x2,x3⟩,⟨w0,w1,w2,w3⟩,?_⟩
 refine parts_all (l:=[([.str x0],1),([.val (.int .i64 x1)],1),([.val (.int .i64 x2)],1),([.val (.int .i64 x3)],1)]) ⟨r0,r1,r2,r3,Nat.le_of_eq hl⟩ rfl
def rE(x:aF):Prop:=(List.length x.aS<=maxLen)/\(List.length x.iR<=maxLen)/\(oy x.du)/\(qM x.kY)/\(qM x.iz)/\(uC x.dG)/\(sQ x.bG)/\(oy x.bZ)/\(wh x.aV)/\(IntKind.min .i64<=x.fM/\x.fM<=IntKind.max .i64)/\(uG x.bK)/\(IntKind.min .i64<=x.dX/\x.dX<=IntKind.max .i64)/\(IntKind.min .i64<=x.ja/\x.ja<=IntKind.max .i64)/\(IntKind.min .i64<=x.kh/\x.kh<=IntKind.max .i64)/\(IntKind.min .i64<=x.lY/\x.lY<=IntKind.max .i64)
theorem ui:fP Tryd.prog 35 rE (fun x=>[.str x.aS,.str x.iR,.recs (α:=Bs) [] aO x.du,.recs (α:=bY) (bY.mk [] []) jj x.kY,.recs (α:=bY) (bY.mk [] []) jj x.iz,.recs (α:=cZ) (cZ.mk [] 0 0 []) kW x.dG,.recs (α:=aT) (aT.mk [] [] false) kD x.bG,.recs (α:=Bs) [] aO x.bZ,.recs (α:=aL) (aL.mk [] 0 false false) iK x.aV,.val (.int .i64 x.fM),.str x.bK.kj,.val (.int .i64 x.bK.jE),.val (.int .i64 x.bK.jB),.val (.int .i64 x.bK.iH),.val (.int .i64 x.dX),.val (.int .i64 x.ja),.val (.int .i64 x.kh),.val (.int .i64 x.lY)]):=by
 intro H enc W fuel cs d ps h
 obtain⟨hl,hf⟩:=mo Tryd.underlying35 h
 have hl:cs.length=18:=hl.trans (by kernel_rfl)
 obtain⟨x0,w0,r0⟩:=hf 0 _ rfl eu
 have r0:=dD (a':=0) (b':=1) r0 (by kernel_rfl) (by kernel_rfl)
 obtain⟨x1,w1,r1⟩:=hf 1 _ rfl eu
 have r1:=dD (a':=1) (b':=1) r1 (by kernel_rfl) (by kernel_rfl)
 obtain⟨x2,w2,r2⟩:=hf 2 _ rfl lV
 have r2:=dD (a':=2) (b':=1) r2 (by kernel_rfl) (by kernel_rfl)
 obtain⟨x3,w3,r3⟩:=hf 3 _ rfl qq
 have r3:=dD (a':=3) (b':=1) r3 (by kernel_rfl) (by kernel_rfl)
 obtain⟨x4,w4,r4⟩:=hf 4 _ rfl qq
 have r4:=dD (a':=4) (b':=1) r4 (by kernel_rfl) (by kernel_rfl)
 obtain⟨x5,w5,r5⟩:=hf 5 _ rfl wA
 have r5:=dD (a':=5) (b':=1) r5 (by kernel_rfl) (by kernel_rfl)
 obtain⟨x6,w6,r6⟩:=hf 6 _ rfl u9
 have r6:=dD (a':=6) (b':=1) r6 (by kernel_rfl) (by kernel_rfl)
 obtain⟨x7,w7,r7⟩:=hf 7 _ rfl lV
 have r7:=dD (a':=7) (b':=1) r7 (by kernel_rfl) (by kernel_rfl)
 obtain⟨x8,w8,r8⟩:=hf 8 _ rfl xr
 have r8:=dD (a':=8) (b':=1) r8 (by kernel_rfl) (by kernel_rfl)
 obtain⟨x9,w9,r9⟩:=hf 9 _ rfl iJ
 have r9:=dD (a':=9) (b':=1) r9 (by kernel_rfl) (by kernel_rfl)
 obtain⟨x10,w10,r10⟩:=hf 10 _ rfl vA
 have r10:=dD (a':=10) (b':=4) r10 (by kernel_rfl) (by kernel_rfl)
 obtain⟨x11,w11,r11⟩:=hf 11 _ rfl iJ
 have r11:=dD (a':=14) (b':=1) r11 (by kernel_rfl) (by kernel_rfl)
 obtain⟨x12,w12,r12⟩:=hf 12 _ rfl iJ
 have r12:=dD (a':=15) (b':=1) r12 (by kernel_rfl) (by kernel_rfl)
 obtain⟨x13,w13,r13⟩:=hf 13 _ rfl iJ
 have r13:=dD (a':=16) (b':=1) r13 (by kernel_rfl) (by kernel_rfl)
 obtain⟨x14,w14,r14⟩:=hf 14 _ rfl iJ
 have r14:=dD (a':=17) (b':=1) r14 (by kernel_rfl) (by kernel_rfl)
 refine⟨⟨x0,x1,x2,x3,x4,x5,x6,x7,x8,x9,x10,x11,x12,x13,x14⟩,⟨w0,w1,w2,w3,w4,w5,w6,w7,w8,w9,w10,w11,w12,w13,w14⟩,?_⟩
 refine parts_all (l:=[([.str x0],1),([.str x1],1),([.recs (α:=Bs) [] aO x2],1),([.recs (α:=bY) (bY.mk [] []) jj x3],1),([.recs (α:=bY) (bY.mk [] []) jj x4],1),([.recs (α:=cZ) (cZ.mk [] 0 0 []) kW x5],1),([.recs (α:=aT) (aT.mk [] [] false) kD x6],1),([.recs (α:=Bs) [] aO x7],1),([.recs (α:=aL) (aL.mk [] 0 false false) iK x8],1),([.val (.int .i64 x9)],1),([.str x10.kj,.val (.int .i64 x10.jE),.val (.int .i64 x10.jB),.val (.int .i64 x10.iH)],4),([.val (.int .i64 x11)],1),([.val (.int .i64 x12)],1),([.val (.int .i64 x13)],1),([.val (.int .i64 x14)],1)]) ⟨r0,r1,r2,r3,r4,r5,r6,r7,r8,r9,r10,r11,r12,r13,r14,Nat.le_of_eq hl⟩ rfl
def qF(l:List (aF)):Prop:=l.length<=maxLen/\∀x∈l,(rE x)
theorem rY:fP Tryd.prog 22 qF (fun l=>[.recs (α:=aF) aP au l]):=ku (α:=aF) (cells:=au) aP (by kernel_rfl) (by kernel_rfl) (of_decide_eq_true (by kernel_rfl)) ui
def oz(x:aD):Prop:=(List.length x.aS<=maxLen)/\(qF x.av)/\(oy x.bZ)/\(oy x.j6)
theorem tP:fP Tryd.prog 25 oz (fun x=>[.str x.aS,.recs (α:=aF) aP au x.av,.recs (α:=Bs) [] aO x.bZ,.recs (α:=Bs) [] aO x.j6]):=by
 intro H enc W fuel cs d ps h
 obtain⟨hl,hf⟩:=mo Tryd.underlying25 h
 have hl:cs.length=4:=hl.trans (by kernel_rfl)
 obtain⟨x0,w0,r0⟩:=hf 0 _ rfl eu
 have r0:=dD (a':=0) (b':=1) r0 (by kernel_rfl) (by kernel_rfl)
 obtain⟨x1,w1,r1⟩:=hf 1 _ rfl rY
 have r1:=dD (a':=1) (b':=1) r1 (by kernel_rfl) (by kernel_rfl)
 obtain⟨x2,w2,r2⟩:=hf 2 _ rfl lV
 have r2:=dD (a':=2) (b':=1) r2 (by kernel_rfl) (by kernel_rfl)
 obtain⟨x3,w3,r3⟩:=hf 3 _ rfl lV
 have r3:=dD (a':=3) (b':=1) r3 (by kernel_rfl) (by kernel_rfl)
 refine⟨⟨x0,x1,x2,x3⟩,⟨w0,w1,w2,w3⟩,?_⟩
 refine parts_all (l:=[([.str x0],1),([.recs (α:=aF) aP au x1],1),([.recs (α:=Bs) [] aO x2],1),([.recs (α:=Bs) [] aO x3],1)]) ⟨r0,r1,r2,r3,Nat.le_of_eq hl⟩ rfl
end Go.Proofs.YtpmmhhmhckpnfaaDoor.M
