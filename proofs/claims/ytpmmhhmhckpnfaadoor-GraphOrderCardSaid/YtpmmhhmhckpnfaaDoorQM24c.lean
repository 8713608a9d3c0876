import Derived.Test.YtpmmhhmhckpnfaaDoorQBelow24
set_option linter.all false
namespace Go.Proofs.YtpmmhhmhckpnfaaDoor.M
open Go.RowKit Go.Proofs.YtpmmhhmhckpnfaaDoor.RX
set_option maxRecDepth 100000
def iF(n:Nat)(a0:aD)(a1:Bs):Option ((Ls)) :=
 (dQ n a0).bind fun r1 =>
 (eY n r1 a1).bind fun r2 =>
 some r2
theorem qH(n:Nat)(a0:aD)(a1:Bs)(r:(Ls))(h:iF n a0 a1=some r):bq Tryd.prog 8 [.agg (aM a0),.str a1] (ls r):=by
 unfold iF at h
 refine xo Tryd.f8 rfl fun F0 w0 _=>?_
 refine Wp.seq (rg [1,2] [2] [(1,.str a1),(2,.own 2 0)] [(2,25,aM a0)] (To.aj (Wp.seq ?_)))
 obtain⟨r1,hr1,h⟩:=aG h
 obtain⟨r2,hr2,h⟩:=aG h
 refine rr [] [(1,.agg [ls r1.ai,.aI none true (α:=af) aK ak r1.aH]),(3,ls r2)] [] [4] [] [(4,ls r2)] [] [_,_] (ax.cons (c1 (ko n a0 _ hr1)) (ax.cons (c1 (jk n r1 a1 _ hr2)) ax.nil)) (To.aj (Wp.ret ?_))
 cases h
 exact To.done hΓ (by kernel_rfl)
theorem sr(l:List (aF)):bP (.recs aP au l):=⟨Nat.le_of_ble_eq_true (by kernel_rfl),fun _=>⟨rfl,rfl⟩⟩
def gy(n:Nat):Option (Bool) :=
 (gX n l5 ([[100,98]])).bind fun r1 =>
 (gX n [100,98] []).bind fun r2 =>
 (gX n mq ([l5,[100,98]])).bind fun r3 =>
 (dT n (aD.mk [] [r1,r2,r3] [] [])).bind fun r4 =>
 (oN n r4 ([[100,98],l5,mq])).bind fun r5 =>
 ((if(r5==true)=true then fu n (aD.mk [] [r1,r2,r3] [] []) mq else some 0)).bind fun r6 =>
 ((if((bif r5 then(r6==2) else false)==true)=true then iF n (aD.mk [] [r1,r2,r3] [] []) mq else some [])).bind fun r7 =>
 some (bif (bif r5 then(r6==2) else false) then((List.length r7:Int)==2) else false)
abbrev G8(l:List (aF)):D:=.aR false (α:=aF) aP au l
theorem kT(n:Nat)(r:Bool)(h:gy n=some r):bq Tryd.prog 5 [] (vb r):=by
 unfold gy at h
 refine xo Tryd.f5 rfl fun F0 w0 _=>?_
 refine Wp.seq (rg [] [] [] [] (To.aj (Wp.seq (rg [1] [] [(1,.fn 15 [])] [] (To.aj (Wp.seq ?_))))))
 obtain⟨r1,hr1,h⟩:=aG h
 obtain⟨r2,hr2,h⟩:=aG h
 obtain⟨r3,hr3,h⟩:=aG h
 refine rr [(2,[4]),(7,[9])] [(1,ls ([[100,98]])),(2,.agg (qc9 r1)),(4,.agg (qc9 r2)),(6,ls ([l5,[100,98]])),(7,.agg (qc9 r3)),(8,dB [r1,r2,r3])] [] [2] [2,11] [(2,.own 2 0)] [(2,25,[.str [],.row 11,.val (.slice none 0 0),.val (.slice none 0 0)]),(11,35,[G8 [r1,r2,r3]])] [(iC 1 [.str [100,98]] 1 (ls ([[100,98]]))/\bP (ls ([[100,98]]))),_,(true=true->CX Tryd.prog 15 [.str [100,98],.val (.slice none 0 0)] (.agg (qc9 r2))),(iC 1 [.str l5,.str [100,98]] 2 (ls ([l5,[100,98]]))/\bP (ls ([l5,[100,98]]))),_,(iC 18 [.str r1.aS,.str r1.iR,ls r1.du,rs5 r1.kY,rs5 r1.iz,rs6 r1.dG,rs7 r1.bG,ls r1.bZ,rs8 r1.aV,vi r1.fM,.str r1.bK.kj,vi r1.bK.jE,vi r1.bK.jB,vi r1.bK.iH,vi r1.dX,vi r1.ja,vi r1.kh,vi r1.lY,.str r2.aS,.str r2.iR,ls r2.du,rs5 r2.kY,rs5 r2.iz,rs6 r2.dG,rs7 r2.bG,ls r2.bZ,rs8 r2.aV,vi r2.fM,.str r2.bK.kj,vi r2.bK.jE,vi r2.bK.jB,vi r2.bK.iH,vi r2.dX,vi r2.ja,vi r2.kh,vi r2.lY,.str r3.aS,.str r3.iR,ls r3.du,rs5 r3.kY,rs5 r3.iz,rs6 r3.dG,rs7 r3.bG,ls r3.bZ,rs8 r3.aV,vi r3.fM,.str r3.bK.kj,vi r3.bK.jE,vi r3.bK.jB,vi r3.bK.iH,vi r3.dX,vi r3.ja,vi r3.kh,vi r3.lY] 3 (dB [r1,r2,r3])/\bP (dB [r1,r2,r3]))] (ax.cons (nD (by kernel_rfl) rfl (by kernel_rfl) (bp _)) (ax.cons (c1 (l6 n l5 ([[100,98]]) _ hr1)) (ax.cons (fun _=>cx (lL (.cons (.refl _) (.cons (.zero _ _) .nil)) (l6 n [100,98] [] _ hr2))) (ax.cons (nD (by kernel_rfl) rfl (by kernel_rfl) (bp _)) (ax.cons (c1 (l6 n mq ([l5,[100,98]]) _ hr3)) (ax.cons (nD (by kernel_rfl) rfl (by kernel_rfl) (sr _)) ax.nil)))))) (To.aj (Wp.seq ?_))
 obtain⟨r4,hr4,h⟩:=aG h
 obtain⟨r5,hr5,h⟩:=aG h
 obtain⟨r6,hr6,h⟩:=aG h
 obtain⟨r7,hr7,h⟩:=aG h
 refine rr [(1,[11]),(3,[15])] [(1,ls r4),(2,ls ([[100,98],l5,mq])),(3,vb r5),(6,vi r6),(11,ls r7)] [] [0] [] [(0,vb (bif (bif r5 then(r6==2) else false) then((List.length r7:Int)==2) else false))] [] [(true=true->CX Tryd.prog 7 [.agg [.str [],dB [r1,r2,r3],.val (.slice none 0 0),.val (.slice none 0 0)]] (ls r4)),(iC 1 [.str [100,98],.str l5,.str mq] 3 (ls ([[100,98],l5,mq]))/\bP (ls ([[100,98],l5,mq]))),_,((r5==true)=true->CX Tryd.prog 10 [.agg [.str [],dB [r1,r2,r3],.val (.slice none 0 0),.val (.slice none 0 0)],.str mq] (vi r6)),(((bif r5 then(r6==2) else false)==true)=true->CX Tryd.prog 8 [.agg [.str [],dB [r1,r2,r3],.val (.slice none 0 0),.val (.slice none 0 0)],.str mq] (ls r7))] (ax.cons (fun _=>cx (lL (.cons (.agg (.cons (.refl _) (.cons (.refl _) (.cons (.zero _ _) (.cons (.zero _ _) .nil))))) .nil) (lu n (aD.mk [] [r1,r2,r3] [] []) _ hr4))) (ax.cons (nD (by kernel_rfl) rfl (by kernel_rfl) (bp _)) (ax.cons (c1 (ym n r4 ([[100,98],l5,mq]) _ hr5)) (ax.cons (fun hg=>cx (lL (.cons (.agg (.cons (.refl _) (.cons (.refl _) (.cons (.zero _ _) (.cons (.zero _ _) .nil))))) (.cons (.refl _) .nil)) (lg n (aD.mk [] [r1,r2,r3] [] []) mq _ (iZ hg hr6)))) (ax.cons (fun hg=>cx (lL (.cons (.agg (.cons (.refl _) (.cons (.refl _) (.cons (.zero _ _) (.cons (.zero _ _) .nil))))) (.cons (.refl _) .nil)) (qH n (aD.mk [] [r1,r2,r3] [] []) mq _ (iZ hg hr7)))) ax.nil))))) (To.aj (Wp.ret ?_))
 cases h
 exact To.done hΓ (by kernel_rfl)
def jg(n:Nat)(v1:Ls)(v5:Ls)(v9:Ls)(v10:Int)(v11:Int):Option ((Ls)) :=
 if(decide (0<=v11/\v11<(List.length v9:Int)))=true then((iy n v1 ((v9)[Int.toNat v11]?.getD [])).bind fun r2 =>
 if(!r2)=true then(if(decide ((List.length v5+List.length ([((v9)[Int.toNat v11]?.getD [])]:Ls))*(16+1)<=limit))=true then(some (v5++([((v9)[Int.toNat v11]?.getD [])]:Ls))) else none)
 else some v5) else none
variable {F0:Fz} {w0:Pt Tryd.prog} {Q:Exit->Act->World->Prop}
theorem su(n:Nat)(v1:Ls)(v5:Ls)(v9:Ls)(v10:Int)(v11:Int)(o:(Ls))(h:jg n v1 v5 v9 v10 v11=some o)(hQ:To 25 F0 w0 [(1,ls v1),(5,.row 1005),(9,ls v9),(10,vi v10),(11,vi v11)] [(1005,9,[bu o])] .normal Q):Wp Tryd.prog 25 F0 w0 [(1,ls v1),(5,.row 1005),(9,ls v9),(10,vi v10),(11,vi v11)] [(1005,9,[bu v5])] (cA (cB (cB (cI (cI (cB (cA (cB (cB (cF Tryd.f25)))))))))) Q:=by
 unfold jg at h
 refine Wp.block (Wp.seq ?_)
 obtain⟨hc4,h⟩:=bg h
 refine r0 [1,5,7,9,10,11] [1005] [(1,ls v1),(5,.row 1005),(7,.str (cq v9 v11)),(9,ls v9),(10,vi v10),(11,vi v11)] [(1005,9,[bu v5])] (ax.cons hc4 ax.nil) (To.aj (Wp.seq ?_))
 obtain⟨r2,hr2,h⟩:=aG h
 refine rc [] 2 [1,5,7,9,10,11,18] [1005] [(1,ls v1),(5,.row 1005),(7,.str (cq v9 v11)),(9,ls v9),(10,vi v10),(11,vi v11),(18,vb (!r2))] [(1005,9,[bu v5])] (gU n v1 (cq v9 v11) _ hr2) (To.aj (cn h (fun h=>?_) (fun h=>?_)))
 ·obtain⟨hc3,h⟩:=bg h
  refine rr [] [(2,ls ([(cq v9 v11)])),(3,ls (v5++(nz v9 v11)))] [] [1,5,9,10,11] [22] [(1,ls v1),(5,.row 22),(9,ls v9),(10,vi v10),(11,vi v11)] [(22,9,[bu (v5++(nz v9 v11))])] [(DU v9 v11),_,(Ee v5 v9 v11)] (ax.cons (nD (by kernel_rfl) rfl (by kernel_rfl) (bp _)) (ax.cons hc3 (ax.cons (oQ rfl rfl (bp _)) ax.nil))) (To.bT (nt [1,5,9,10,11] [22] [(22,1005)] [1,5,9,10,11] [1005] [(1,ls v1),(5,.row 1005),(9,ls v9),(10,vi v10),(11,vi v11)] [(1005,9,[bu (v5++(nz v9 v11))])] ?_))
  cases h
  exact hQ
 ·refine Wp.skip (To.bT (kt [1,5,9,10,11] [1005] [(1,ls v1),(5,.row 1005),(9,ls v9),(10,vi v10),(11,vi v11)] [(1005,9,[bu v5])] ?_))
  cases h
  exact hQ
def dV(n:Nat)(v1:Ls)(v9:Ls)(v10:Int):Nat->(Ls)->Int->Option ((Ls))
 |0,_,_=>none
 |k+1,v5,v11=>if(decide (v11<v10))=true then((jg n v1 v5 v9 v10 v11).bind fun o2 =>
 dV n v1 v9 v10 k o2 (IntKind.wrap .i64 (v11+1)))
 else some v5
theorem sL(n:Nat)(v1:Ls)(v9:Ls)(v10:Int)(k:Nat):∀(v5:Ls)(v11:Int)(o:(Ls)),dV n v1 v9 v10 k v5 v11=some o->To 25 F0 w0 [(5,.row 1005)] [(1005,9,[bu o])] (.exit 0) Q->WL Tryd.prog 25 F0 w0 [(1,ls v1),(5,.row 1005),(9,ls v9),(10,vi v10),(11,vi v11)] [(1005,9,[bu v5])] (cI (cI (cB (cA (cB (cB (cF Tryd.f25))))))) Q:=by
 induction k with
 |zero=>intro v5 v11 o h;cases h
 |succ k ih =>
  intro v5 v11 o h hQ
  rw[dV] at h
  refine WL.round (Wp.seq (rg [1,5,9,10,11,12] [1005] [(1,ls v1),(5,.row 1005),(9,ls v9),(10,vi v10),(11,vi v11),(12,vb (decide (v11<v10)))] [(1005,9,[bu v5])] (To.aj (Wp.seq (cn h (fun h=>?_) (fun h=>?_))))))
  ·refine Wp.skip (To.aj (Wp.seq ?_))
   obtain⟨o2,ho2,h⟩:=aG h
   refine kw [1,5,9,10,11] [1005] [(1,ls v1),(5,.row 1005),(9,ls v9),(10,vi v10),(11,vi v11)] [(1005,9,[bu v5])] (su n v1 v5 v9 v10 v11 o2 ho2 (To.aj (rg [1,5,9,10,11] [1005] [(1,ls v1),(5,.row 1005),(9,ls v9),(10,vi v10),(11,vi (IntKind.wrap .i64 (v11+1)))] [(1005,9,[bu o2])] (kt [1,5,9,10,11] [1005] [(1,ls v1),(5,.row 1005),(9,ls v9),(10,vi v10),(11,vi (IntKind.wrap .i64 (v11+1)))] [(1005,9,[bu o2])] (To.again ?_)))))
   exact ih o2 (IntKind.wrap .i64 (v11+1)) _ h hQ
  ·refine Wp.exit (To.aZ (To.aZ (kt [5] [1005] [(5,.row 1005)] [(1005,9,[bu v5])] ?_)))
   cases h
   exact hQ
def jI(n:Nat)(a0:Ls)(a1:Ls):Option ((Ls)) :=
 (fy n a0).bind fun r1 =>
 (dV n a1 r1 (List.length r1:Int) n ([]:Ls) 0).bind fun o2 =>
 some o2
theorem pU(n:Nat)(a0:Ls)(a1:Ls)(r:(Ls))(h:jI n a0 a1=some r):bq Tryd.prog 25 [ls a0,ls a1] (ls r):=by
 unfold jI at h
 refine xo Tryd.f25 rfl fun F0 w0 _=>?_
 refine Wp.seq (rg [0,1] [] [(0,ls a0),(1,ls a1)] [] (To.aj (Wp.seq (rg [0,1,5] [] [(0,ls a0),(1,ls a1),(5,.val (.slice none 0 0))] [] (To.aj (Wp.seq (Wp.seq ?_)))))))
 obtain⟨r1,hr1,h⟩:=aG h
 refine rc [] 1 [1,5,9,10,11] [] [(1,ls a1),(5,.val (.slice none 0 0)),(9,ls r1),(10,vi (List.length r1:Int)),(11,vi 0)] [] (kU n a0 _ hr1) (To.aj (Wp.block ?_))
 obtain⟨o2,ho2,h⟩:=aG h
 refine kw [1,5,9,10,11] [] [(1,ls a1),(5,.val (.slice none 0 0)),(9,ls r1),(10,vi (List.length r1:Int)),(11,vi 0)] [] (Wp.pre (St.qo (t:=5) (k:=1005) (e:=9) (K':=[(1,ls a1),(5,.row 1005),(9,ls r1),(10,vi (List.length r1:Int)),(11,vi 0)]) (bp _) (by decide) (by kernel_rfl) (by kernel_rfl)) (kw [1,5,9,10,11] [1005] [(1,ls a1),(5,.row 1005),(9,ls r1),(10,vi (List.length r1:Int)),(11,vi 0)] [(1005,9,[bu []])] (Wp.dE (sL n a1 r1 (List.length r1:Int) n ([]:Ls) 0 o2 ho2 (To.cH (To.aj (Wp.seq (rg [4] [1005] [(4,.row 1005)] [(1005,9,[bu o2])] (To.aj (Wp.ret ?_))))))))))
 refine To.pre (St.settle (ks:=[1005]) (kk:=[4]) (kl:=[1005]) (K':=[(4,.row 1005)]) (L':=[(1005,9,[dM o2])]) (by kernel_rfl)) (To.pre (St.yr [4] (K':=[(4,ls o2)]) (by kernel_rfl)) ?_)
 cases h
 exact To.done hΓ (by kernel_rfl)
def gY(n:Nat)(v0:Bs)(v6:Int):Nat->Int->Option (Sum (Unit) (Bool))
 |0,_=>none
 |k+1,v7=>if(decide (v7<v6))=true then(if(decide (0<=v7/\v7<(List.length v0:Int)))=true then(kE ((bif (bif (bif (bif (decide ((((v0)[Int.toNat v7]?.getD 0).toNat:Int)<97)) then true else(decide ((((v0)[Int.toNat v7]?.getD 0).toNat:Int)>122))) then(bif (decide ((((v0)[Int.toNat v7]?.getD 0).toNat:Int)<65)) then true else(decide ((((v0)[Int.toNat v7]?.getD 0).toNat:Int)>90))) else false) then(bif (decide ((((v0)[Int.toNat v7]?.getD 0).toNat:Int)<48)) then true else(decide ((((v0)[Int.toNat v7]?.getD 0).toNat:Int)>57))) else false) then(decide ((Lib.indexByte ([46,95,45,47]:Bs) (Int.toNat (((v0)[Int.toNat v7]?.getD 0).toNat:Int)).toUInt8)<0)) else false):Bool) fun x1 =>
 if x1=true then(some (.inr false))
 else(gY n v0 v6 k (IntKind.wrap .i64 (v7+1)))) else none)
 else(some (.inl ()))
abbrev jy(x0:Bs)(x1:Int):=(((x0)[Int.toNat x1]?.getD 0).toNat:Int)
theorem vf(n:Nat)(v0:Bs)(v6:Int)(k:Nat):∀(v7:Int)(o:Sum (Unit) (Bool)),gY n v0 v6 k v7=some o->(Sum.elim (fun s=>To 48 F0 w0 [(0,.str v0)] [] (.exit 0) Q) (fun s=>To 48 F0 w0 [(2,vb s)] [] .ret Q)) o->WL Tryd.prog 48 F0 w0 [(0,.str v0),(6,vi v6),(7,vi v7)] [] (cI (cI (cB (cA (cB (cF Tryd.f53)))))) Q:=by
 induction k with
 |zero=>intro v7 o h;cases h
 |succ k ih =>
  intro v7 o h hQ
  rw[gY] at h
  refine WL.round (Wp.seq (rg [0,6,7,8] [] [(0,.str v0),(6,vi v6),(7,vi v7),(8,vb (decide (v7<v6)))] [] (To.aj (Wp.seq (cn h (fun h=>?_) (fun h=>?_))))))
  ·refine Wp.skip (To.aj (Wp.seq (Wp.block (Wp.seq (rg [0,3,6,7] [] [(0,.str v0),(3,vi v7),(6,vi v6),(7,vi v7)] [] (To.aj (Wp.seq ?_)))))))
   obtain⟨hc2,h⟩:=bg h
   refine r0 [0,4,6,7] [] [(0,.str v0),(4,.val (.int .u8 (jy v0 v7))),(6,vi v6),(7,vi v7)] [] (ax.cons hc2 ax.nil) (To.aj (Wp.seq ?_))
   obtain⟨x1,hx1,h⟩:=kC h
   refine rr [] [(24,vi (Lib.indexByte ([46,95,45,47]:Bs) (Int.toNat (jy v0 v7)).toUInt8))] [] [0,6,7,39] [] [(0,.str v0),(6,vi v6),(7,vi v7),(39,vb (bif (bif (bif (bif (decide ((jy v0 v7)<97)) then true else(decide ((jy v0 v7)>122))) then(bif (decide ((jy v0 v7)<65)) then true else(decide ((jy v0 v7)>90))) else false) then(bif (decide ((jy v0 v7)<48)) then true else(decide ((jy v0 v7)>57))) else false) then(decide ((Lib.indexByte ([46,95,45,47]:Bs) (Int.toNat (jy v0 v7)).toUInt8)<0)) else false))] [] [(((bif (bif (bif (decide ((jy v0 v7)<97)) then true else(decide ((jy v0 v7)>122))) then(bif (decide ((jy v0 v7)<65)) then true else(decide ((jy v0 v7)>90))) else false) then(bif (decide ((jy v0 v7)<48)) then true else(decide ((jy v0 v7)>57))) else false)==true)=true->CX Tryd.prog 62 [.str [46,95,45,47],.val (.int .u8 (jy v0 v7))] (vi (Lib.indexByte ([46,95,45,47]:Bs) (Int.toNat (jy v0 v7)).toUInt8)))] (ax.cons (fun _=>cx (Sh.zH)) ax.nil) (To.eq (K':=[(0,.str v0),(6,vi v6),(7,vi v7),(39,vb x1)]) (L':=[]) (by cases hx1;rfl) (by cases hx1;rfl) (To.aj (cn h (fun h=>?_) (fun h=>?_))))
   ·refine Wp.seq (rg [2] [] [(2,vb false)] [] (To.aj (Wp.ret (To.bH (To.aX (To.aX ?_))))))
    cases h
    exact hQ
   ·refine Wp.skip (To.bT (To.aj (rg [0,6,7] [] [(0,.str v0),(6,vi v6),(7,vi (IntKind.wrap .i64 (v7+1)))] [] (kt [0,6,7] [] [(0,.str v0),(6,vi v6),(7,vi (IntKind.wrap .i64 (v7+1)))] [] (To.again ?_)))))
    exact ih (IntKind.wrap .i64 (v7+1)) _ h hQ
  ·refine Wp.exit (To.aZ (To.aZ (kt [0] [] [(0,.str v0)] [] ?_)))
   cases h
   exact hQ
def kV(n:Nat)(a0:Bs):Option (Bool) :=
 (gY n a0 (List.length a0:Int) n 0).bind fun o1 =>
 (Sum.elim (fun o1=>some (bif (!(a0==[])) then(decide ((List.length a0:Int)<=64)) else false)) (fun o1=>some o1)) o1
theorem rG(n:Nat)(a0:Bs)(r:Bool)(h:kV n a0=some r):bq Tryd.prog 53 [.str a0] (vb r):=by
 unfold kV at h
 refine xo Tryd.f53 rfl fun F0 w0 _=>?_
 refine Wp.seq (rg [0] [] [(0,.str a0)] [] (To.aj (Wp.seq (Wp.seq (rg [0,6,7] [] [(0,.str a0),(6,vi (List.length a0:Int)),(7,vi 0)] [] (To.aj (Wp.block ?_)))))))
 obtain⟨o1,ho1,h⟩:=aG h
 refine kw [0,6,7] [] [(0,.str a0),(6,vi (List.length a0:Int)),(7,vi 0)] [] (Wp.dE (vf n a0 (List.length a0:Int) n 0 o1 ho1 ?_))
 rcases o1 with o1|o1
 ·replace h:=ij h
  refine To.cH (To.aj (Wp.seq (rg [2] [] [(2,vb (bif (!(a0==[])) then(decide ((List.length a0:Int)<=64)) else false))] [] (To.aj (Wp.ret ?_)))))
  cases h
  exact To.done hΓ (by kernel_rfl)
 ·replace h:=il h
  refine To.bH (To.aX ?_)
  cases h
  exact To.done hΓ (by kernel_rfl)
end Go.Proofs.YtpmmhhmhckpnfaaDoor.M
