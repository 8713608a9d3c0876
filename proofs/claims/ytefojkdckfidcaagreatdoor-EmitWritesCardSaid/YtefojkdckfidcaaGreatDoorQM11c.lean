import Derived.Test.YtefojkdckfidcaaGreatDoorQM11b
set_option linter.all false
namespace Go.Proofs.YtefojkdckfidcaaGreatDoor.M
open Go.RowKit Go.Proofs.YtefojkdckfidcaaGreatDoor.RX
set_option maxRecDepth 100000
theorem lu(n:Nat)(h0:ak)(r:Bs×ak)(h:iz n h0=some r):aV Tryz.prog 128 [.own 1000000 0] [(1000000,137,aH h0)] (.str r.1) [(1000000,137,aH r.2)]:=by
 unfold iz at h
 refine bo Tryz.f128 rfl fun F0 w0=>?_
 refine Wp.seq (rg [0] [1000000] [(0,.own 1000000 0)] [(1000000,137,aH h0)] (To.ah (Wp.seq ?_)))
 obtain⟨r1,hr1,h⟩:=ay h
 refine Wp.dP hm hΓ [(8,.tup [.str r1.1,vi r1.2.1,vi r1.2.2])] [0,3,4,5] [1000000] (K':=[(0,.own 1000000 0),(3,.str r1.1),(4,vi r1.2.1),(5,vi r1.2.2)]) (L':=[(1000000,137,aH h0)]) (ob:=[(true=true->CX Tryz.prog 31 [.str h0.f_s,vi h0.aC] (.tup [.str r1.1,vi r1.2.1,vi r1.2.2]))]) (by kernel_rfl) (aj.cons (fun _=>cx (kN n h0.f_s h0.aC _ hr1)) aj.nil) (To.ah (Wp.seq (Wp.seq (rg [0,3,4,20] [1000000] [(0,.own 1000000 0),(3,.str r1.1),(4,vi r1.2.1),(20,vb (r1.2.2 != 0))] [(1000000,137,aH h0)] (To.ah (cn h (fun h=>?_) (fun h=>?_)))))))
 ·refine Wp.seq (rg [] [1000000] [] [(1000000,137,[.str h0.f_s,vi h0.aC,vb true])] (To.ah (Wp.seq (rg [2] [1000000] [(2,.str [])] [(1000000,137,[.str h0.f_s,vi h0.aC,vb true])] (To.ah (Wp.ret (To.aL ?_)))))))
  cases h
  exact To.dL hΓ [1000000] (by kernel_rfl) (by kernel_rfl)
 ·refine Wp.skip (To.ah (Wp.seq (rg [3] [1000000] [(3,.str r1.1)] [(1000000,137,[.str h0.f_s,vi r1.2.1,vb h0.bD])] (To.ah (Wp.seq (rg [2] [1000000] [(2,.str r1.1)] [(1000000,137,[.str h0.f_s,vi r1.2.1,vb h0.bD])] (To.ah (Wp.ret ?_))))))))
  cases h
  exact To.dL hΓ [1000000] (by kernel_rfl) (by kernel_rfl)
def gI(n:Nat)(v3:Int):Nat->ak->Option (ak)
 |0,_=>none
 |k+1,b1000000=>if(decide (b1000000.aC<(List.length b1000000.f_s:Int)))=true then(if(decide (0<=b1000000.aC/\b1000000.aC<(List.length b1000000.f_s:Int)))=true then(if((!((((IntKind.wrap .i64 (b1000000.aC+1))==(List.length b1000000.f_s:Int))==false)&&((((((b1000000.f_s)[Int.toNat b1000000.aC]?.getD 0).toNat:Int)==58)==true)&&((decide ((Lib.indexByte ([44,91,93,123,125]:Bs) (Int.toNat (((b1000000.f_s)[Int.toNat b1000000.aC]?.getD 0).toNat:Int)).toUInt8)>=0))==false)))||decide (0<=(IntKind.wrap .i64 (b1000000.aC+1))/\(IntKind.wrap .i64 (b1000000.aC+1))<(List.length b1000000.f_s:Int))))=true then(bM ((bif (decide ((Lib.indexByte ([44,91,93,123,125]:Bs) (Int.toNat (((b1000000.f_s)[Int.toNat b1000000.aC]?.getD 0).toNat:Int)).toUInt8)>=0)) then true else(bif ((((b1000000.f_s)[Int.toNat b1000000.aC]?.getD 0).toNat:Int)==58) then(bif ((IntKind.wrap .i64 (b1000000.aC+1))==(List.length b1000000.f_s:Int)) then true else(decide ((Lib.indexByte ([32,44,91,93,123,125]:Bs) (Int.toNat (((b1000000.f_s)[Int.toNat (IntKind.wrap .i64 (b1000000.aC+1))]?.getD 0).toNat:Int)).toUInt8)>=0))) else false)):Bool) fun x1 =>
 if x1=true then some b1000000
 else(gI n v3 k (ak.mk b1000000.f_s (IntKind.wrap .i64 (b1000000.aC+1)) b1000000.bD))) else none) else none)
 else some b1000000
abbrev Dx(x0:ak):=(Lib.indexByte ([44,91,93,123,125]:Bs) (Int.toNat (((x0.f_s)[Int.toNat x0.aC]?.getD 0).toNat:Int)).toUInt8)
abbrev IE(x0:ak):=(Lib.indexByte ([32,44,91,93,123,125]:Bs) (Int.toNat (((x0.f_s)[Int.toNat (IntKind.wrap .i64 (x0.aC+1))]?.getD 0).toNat:Int)).toUInt8)
abbrev Cb(x0:ak):=(((x0.f_s)[Int.toNat x0.aC]?.getD 0).toNat:Int)
variable {F0:Fz} {w0:Pt Tryz.prog} {Q:Exit->Act->World->Prop}
theorem pU(n:Nat)(v3:Int)(k:Nat):∀(b1000000:ak)(o:ak),gI n v3 k b1000000=some o->To 80 F0 w0 [(0,.own 1000000 0),(3,vi v3)] [(1000000,137,aH o)] (.exit 0) Q->WL Tryz.prog 80 F0 w0 [(0,.own 1000000 0),(3,vi v3)] [(1000000,137,aH b1000000)] (cI (cI (cA (cB (cB (cF Tryz.f129)))))) Q:=by
 induction k with
 |zero=>intro b1000000 o h;cases h
 |succ k ih =>
  intro b1000000 o h hQ
  rw[gI] at h
  refine WL.round (Wp.seq (Wp.seq (Wp.dP hm hΓ [] [0,3,18] [1000000] (K':=[(0,.own 1000000 0),(3,vi v3),(18,vb (decide (b1000000.aC<(uB b1000000))))]) (L':=[(1000000,137,aH b1000000)]) (ob:=[]) (by kernel_rfl) aj.nil (To.ah (cn h (fun h=>?_) (fun h=>?_))))))
  ·refine Wp.skip (To.ah (Wp.seq (Wp.block (Wp.seq ?_))))
   obtain⟨hc3,h⟩:=aF h
   refine Wp.dP hm hΓ [] [0,3,4] [1000000] (K':=[(0,.own 1000000 0),(3,vi v3),(4,.val (.int .u8 (Cb b1000000)))]) (L':=[(1000000,137,aH b1000000)]) (ob:=[(decide (0<=b1000000.aC/\b1000000.aC<(uB b1000000)))=true]) (by kernel_rfl) (aj.cons hc3 aj.nil) (To.ah (Wp.seq ?_))
   obtain⟨hc2,h⟩:=aF h
   obtain⟨x1,hx1,h⟩:=aW h
   refine Wp.dP hm hΓ [(1,vi (Dx b1000000)),(29,vi (IE b1000000))] [0,3,68] [1000000] (K':=[(0,.own 1000000 0),(3,vi v3),(68,vb (bif (decide ((Dx b1000000)>=0)) then true else(bif ((Cb b1000000)==58) then(bif ((zE b1000000)==(uB b1000000)) then true else(decide ((IE b1000000)>=0))) else false)))]) (L':=[(1000000,137,aH b1000000)]) (ob:=[(true=true->CX Tryz.prog 66 [.str [44,91,93,123,125],.val (.int .u8 (Cb b1000000))] (vi (Dx b1000000))),(!((((zE b1000000)==(uB b1000000))==false)&&((((Cb b1000000)==58)==true)&&((decide ((Dx b1000000)>=0))==false)))||decide (0<=(zE b1000000)/\(zE b1000000)<(uB b1000000)))=true,(((((zE b1000000)==(uB b1000000))==false)&&((((Cb b1000000)==58)==true)&&((decide ((Dx b1000000)>=0))==false)))=true->CX Tryz.prog 66 [.str [32,44,91,93,123,125],.val (.int .u8 (((b1000000.f_s)[Int.toNat (zE b1000000)]?.getD 0).toNat:Int))] (vi (IE b1000000)))]) (by kernel_rfl) (aj.cons (fun _=>cx (Sh.kS)) (aj.cons hc2 (aj.cons (fun _=>cx (Sh.kS)) aj.nil))) (To.eq (K':=[(0,.own 1000000 0),(3,vi v3),(68,vb x1)]) (L':=[(1000000,137,aH b1000000)]) (by cases hx1;rfl) (by cases hx1;rfl) (To.ah (cn h (fun h=>?_) (fun h=>?_))))
   ·refine Wp.exit (To.vO (by decide) (To.bU (To.bU (kt [0,3] [1000000] [(0,.own 1000000 0),(3,vi v3)] [(1000000,137,aH b1000000)] ?_))))
    cases h
    exact hQ
   ·refine Wp.skip (To.aS (To.ah (rg [0,3] [1000000] [(0,.own 1000000 0),(3,vi v3)] [(xH b1000000)] (kt [0,3] [1000000] [(0,.own 1000000 0),(3,vi v3)] [(xH b1000000)] (To.again ?_)))))
    exact ih (EZ b1000000) _ h hQ
  ·refine Wp.exit (To.bU (To.bU (kt [0,3] [1000000] [(0,.own 1000000 0),(3,vi v3)] [(1000000,137,aH b1000000)] ?_)))
   cases h
   exact hQ
def iK(n:Nat)(h0:ak):Option (Bs×ak) :=
 (gI n h0.aC n h0).bind fun o1 =>
 if(decide (0<=o1.aC/\o1.aC<=(List.length o1.f_s:Int)))=true then(if(decide (0<=h0.aC/\h0.aC<=o1.aC))=true then(if(decide (List.length (List.take (Int.toNat o1.aC-Int.toNat h0.aC) (List.drop (Int.toNat h0.aC) o1.f_s))<4294967281))=true then(some ((Lib.trimRightB (List.take (Int.toNat o1.aC-Int.toNat h0.aC) (List.drop (Int.toNat h0.aC) o1.f_s)) 32),o1)) else none) else none) else none
theorem lL(n:Nat)(h0:ak)(r:Bs×ak)(h:iK n h0=some r):aV Tryz.prog 129 [.own 1000000 0] [(1000000,137,aH h0)] (.str r.1) [(1000000,137,aH r.2)]:=by
 unfold iK at h
 refine bo Tryz.f129 rfl fun F0 w0=>?_
 refine Wp.seq (rg [0] [1000000] [(0,.own 1000000 0)] [(1000000,137,aH h0)] (To.ah (Wp.seq (rg [0,3] [1000000] [(0,.own 1000000 0),(3,vi h0.aC)] [(1000000,137,aH h0)] (To.ah (Wp.seq (Wp.block ?_)))))))
 obtain⟨o1,ho1,h⟩:=ay h
 refine kw [0,3] [1000000] [(0,.own 1000000 0),(3,vi h0.aC)] [(1000000,137,aH h0)] (Wp.fP (pU n h0.aC n h0 o1 ho1 (To.dW (To.ah (Wp.seq ?_)))))
 obtain⟨hc3,h⟩:=aF h
 obtain⟨hc4,h⟩:=aF h
 obtain⟨u2,h⟩:=aF h
 refine Wp.dP hm hΓ [(10,.str (Lib.trimRightB (List.take (Int.toNat o1.aC-Int.toNat h0.aC) (List.drop (Int.toNat h0.aC) o1.f_s)) 32))] [2] [1000000] (K':=[(2,.str (Lib.trimRightB (List.take (Int.toNat o1.aC-Int.toNat h0.aC) (List.drop (Int.toNat h0.aC) o1.f_s)) 32))]) (L':=[(1000000,137,aH o1)]) (ob:=[(decide (0<=o1.aC/\o1.aC<=(List.length o1.f_s:Int)))=true,(decide (0<=h0.aC/\h0.aC<=o1.aC))=true,(true=true->CX Tryz.prog 139 [.str (List.take (Int.toNat o1.aC-Int.toNat h0.aC) (List.drop (Int.toNat h0.aC) o1.f_s)),.str [32]] (.str (Lib.trimRightB (List.take (Int.toNat o1.aC-Int.toNat h0.aC) (List.drop (Int.toNat h0.aC) o1.f_s)) 32)))]) (by kernel_rfl) (aj.cons hc3 (aj.cons hc4 (aj.cons (fun _=>cx (Sh.BD (by decide) u2)) aj.nil))) (To.ah (Wp.ret ?_))
 cases h
 exact To.dL hΓ [1000000] (by kernel_rfl) (by kernel_rfl)
def jP(n:Nat)(v12:Bool)(b1000000:ak):Option (Bs×ak) :=
 if v12=true then((iz n b1000000).bind fun r2 =>
 some (r2.1,r2.2))
 else((iK n b1000000).bind fun r3 =>
 (pO n r3.1).bind fun r4 =>
 if(!r4)=true then(some (r3.1,(ak.mk r3.2.f_s r3.2.aC true)))
 else(some (r3.1,r3.2)))
theorem qB(n:Nat)(v12:Bool)(b1000000:ak)(o:Bs×ak)(h:jP n v12 b1000000=some o)(hQ:To 36 F0 w0 [(0,.own 1000000 0),(3,.str o.1)] [(1000000,137,aH o.2)] .normal Q):Wp Tryz.prog 36 F0 w0 [(0,.own 1000000 0),(12,vb v12)] [(1000000,137,aH b1000000)] (cB (cA (cB (cB (cF Tryz.f138))))) Q:=by
 unfold jP at h
 refine cn h (fun h=>?_) (fun h=>?_)
 ·obtain⟨r2,hr2,h⟩:=ay h
  refine rb [] 1 ⟨[(1000000,1000000)],[(1000000,1000000)],[.own 1000000 0],[(1000000,137,aH b1000000)],.str r2.1,[(1000000,137,aH r2.2)]⟩ [0,3] [1000000] [(0,.own 1000000 0),(3,.str r2.1)] [(1000000,137,aH r2.2)] ((lu n b1000000 _ hr2)) (kt [0,3] [1000000] [(0,.own 1000000 0),(3,.str r2.1)] [(1000000,137,aH r2.2)] ?_)
  cases h
  exact hQ
 ·refine Wp.seq ?_
  obtain⟨r3,hr3,h⟩:=ay h
  refine rb [] 1 ⟨[(1000000,1000000)],[(1000000,1000000)],[.own 1000000 0],[(1000000,137,aH b1000000)],.str r3.1,[(1000000,137,aH r3.2)]⟩ [0,3] [1000000] [(0,.own 1000000 0),(3,.str r3.1)] [(1000000,137,aH r3.2)] ((lL n b1000000 _ hr3)) (To.ah (Wp.seq ?_))
  obtain⟨r4,hr4,h⟩:=ay h
  refine rc [] 1 [0,3,19] [1000000] [(0,.own 1000000 0),(3,.str r3.1),(19,vb (!r4))] [(1000000,137,aH r3.2)] (qP n r3.1 _ hr4) (To.ah (cn h (fun h=>?_) (fun h=>?_)))
  ·refine rg [0,3] [1000000] [(0,.own 1000000 0),(3,.str r3.1)] [(1000000,137,[.str r3.2.f_s,vi r3.2.aC,vb true])] (kt [0,3] [1000000] [(0,.own 1000000 0),(3,.str r3.1)] [(1000000,137,[.str r3.2.f_s,vi r3.2.aC,vb true])] ?_)
   cases h
   exact hQ
  ·refine Wp.skip (kt [0,3] [1000000] [(0,.own 1000000 0),(3,.str r3.1)] [(1000000,137,aH r3.2)] ?_)
   cases h
   exact hQ
def jk(n:Nat)(h0:ak):Option (Bs×ak) :=
 (dR n h0).bind fun r1 =>
 (jP n (bif (r1.1==34) then true else(r1.1==39)) r1.2).bind fun o2 =>
 ((if(o2.2.bD==false)=true then bI n 58 o2.2 else some (false,o2.2))).bind fun r3 =>
 some (o2.1,(ak.mk r3.2.f_s r3.2.aC (bif o2.2.bD then true else(!r3.1))))
theorem mJ(n:Nat)(h0:ak)(r:Bs×ak)(h:jk n h0=some r):aV Tryz.prog 138 [.own 1000000 0] [(1000000,137,aH h0)] (.str r.1) [(1000000,137,aH r.2)]:=by
 unfold jk at h
 refine bo Tryz.f138 rfl fun F0 w0=>?_
 refine Wp.seq (rg [0] [1000000] [(0,.own 1000000 0)] [(1000000,137,aH h0)] (To.ah (Wp.seq ?_)))
 obtain⟨r1,hr1,h⟩:=ay h
 refine rb [] 1 ⟨[(1000000,1000000)],[(1000000,1000000)],[.own 1000000 0],[(1000000,137,aH h0)],.val (.int .u8 r1.1),[(1000000,137,aH r1.2)]⟩ [0,4] [1000000] [(0,.own 1000000 0),(4,.val (.int .u8 r1.1))] [(1000000,137,aH r1.2)] ((gW n h0 _ hr1)) (To.ah (Wp.seq (Wp.seq (rg [0,12] [1000000] [(0,.own 1000000 0),(12,vb (bif (r1.1==34) then true else(r1.1==39)))] [(1000000,137,aH r1.2)] (To.ah ?_)))))
 obtain⟨o2,ho2,h⟩:=ay h
 refine kw [0,12] [1000000] [(0,.own 1000000 0),(12,vb (bif (r1.1==34) then true else(r1.1==39)))] [(1000000,137,aH r1.2)] (qB n (bif (r1.1==34) then true else(r1.1==39)) r1.2 o2 ho2 (To.ah (Wp.seq ?_)))
 obtain⟨r3,hr3,h⟩:=ay h
 refine rr [] [] [(7,⟨[(1000000,1000000)],[(1000000,1000000)],[.own 1000000 0,.val (.int .u8 58)],[(1000000,137,aH o2.2)],vb r3.1,[(1000000,137,aH r3.2)]⟩)] [3] [1000000] [(3,.str o2.1)] [(1000000,137,[.str r3.2.f_s,vi r3.2.aC,vb (bif o2.2.bD then true else(!r3.1))])] [((o2.2.bD==false)=true->qp (aV Tryz.prog) 137 [.own 1000000 0,.val (.int .u8 58)] [some (137,aH o2.2)] ⟨[(1000000,1000000)],[(1000000,1000000)],[.own 1000000 0,.val (.int .u8 58)],[(1000000,137,aH o2.2)],vb r3.1,[(1000000,137,aH r3.2)]⟩),((o2.2.bD==false)=false->tK [(1000000,137,aH o2.2)] ⟨[(1000000,1000000)],[(1000000,1000000)],[.own 1000000 0,.val (.int .u8 58)],[(1000000,137,aH o2.2)],vb r3.1,[(1000000,137,aH r3.2)]⟩)] (aj.cons (fun hg=>⟨(bQ n 58 o2.2 _ (iq hg hr3)),by kernel_rfl,by kernel_rfl⟩) (aj.cons (fun hg=>by cases yc hg hr3;exact Ho (by kernel_rfl)) aj.nil)) ?_
 refine To.ah (Wp.seq (rg [2] [1000000] [(2,.str o2.1)] [(1000000,137,[.str r3.2.f_s,vi r3.2.aC,vb (bif o2.2.bD then true else(!r3.1))])] (To.ah (Wp.ret ?_))))
 cases h
 exact To.dL hΓ [1000000] (by kernel_rfl) (by kernel_rfl)
mutual
def iN(R_flow_reader_value__o0:ak->Option (af×Bool×ak))(n:Nat):Nat->af->ak->Option (af×ak)
 |0,_,_=>none
 |k+1,b2,b1000000=>(bI n 125 (ak.mk b1000000.f_s (IntKind.wrap .i64 (b1000000.aC+1)) b1000000.bD)).bind fun r1 =>
 if r1.1=true then(some ((af.mk 3 [] [] []),r1.2))
 else((jk n r1.2).bind fun r2 =>
 bM ((bif r2.2.bD then true else(decide (((bF (dG ([]:List (MK×Int)) (.inl r2.1) (IntKind.wrap .i64 (((bF ([]:List (MK×Int)) (.inl r2.1)).getD 0)+1))) (.inl r2.1)).getD 0)>1))):Bool) fun x3 =>
 if x3=true then(some ((af.mk 3 [] [] []),(ak.mk r2.2.f_s r2.2.aC true)))
 else((R_flow_reader_value__o0 r2.2).bind fun r4 =>
 if(decide ((List.length ([]:Ls)+List.length ([r2.1]:Ls))*(16+1)<=limit))=true then(if(decide ((List.length ([]:List (af))+List.length ([r4.1]:List (af)))*(72+1)<=limit))=true then(if r4.2.2.bD=true then(some ((af.mk 3 [] (([]:Ls)++([r2.1]:Ls)) (([]:List (af))++([r4.1]:List (af)))),r4.2.2))
 else((bI n 44 r4.2.2).bind fun r5 =>
 if r5.1=true then(fK R_flow_reader_value__o0 n k b2 (af.mk 3 [] (([]:Ls)++([r2.1]:Ls)) (([]:List (af))++([r4.1]:List (af)))) (dG ([]:List (MK×Int)) (.inl r2.1) (IntKind.wrap .i64 (((bF ([]:List (MK×Int)) (.inl r2.1)).getD 0)+1))) r5.2)
 else((bI n 125 r5.2).bind fun r6 =>
 some ((af.mk 3 [] (([]:Ls)++([r2.1]:Ls)) (([]:List (af))++([r4.1]:List (af)))),(ak.mk r6.2.f_s r6.2.aC (!r6.1)))))) else none) else none))
def fK(R_flow_reader_value__o0:ak->Option (af×Bool×ak))(n:Nat):Nat->af->af->(List (MK×Int))->ak->Option (af×ak)
 |0,_,_,_,_=>none
 |k+1,b2,b3,b9,b1000000=>(jk n b1000000).bind fun r1 =>
 bM ((bif r1.2.bD then true else(decide (((bF (dG b9 (.inl r1.1) (IntKind.wrap .i64 (((bF b9 (.inl r1.1)).getD 0)+1))) (.inl r1.1)).getD 0)>1))):Bool) fun x2 =>
 if x2=true then(some (b3,(ak.mk r1.2.f_s r1.2.aC true)))
 else((R_flow_reader_value__o0 r1.2).bind fun r3 =>
 if(decide ((List.length b3.av+List.length ([r1.1]:Ls))*(16+1)<=limit))=true then(if(decide ((List.length b3.ai+List.length ([r3.1]:List (af)))*(72+1)<=limit))=true then(if r3.2.2.bD=true then(some ((af.mk b3.aD b3.aI (b3.av++([r1.1]:Ls)) (b3.ai++([r3.1]:List (af)))),r3.2.2))
 else((bI n 44 r3.2.2).bind fun r4 =>
 if r4.1=true then(fK R_flow_reader_value__o0 n k b2 (af.mk b3.aD b3.aI (b3.av++([r1.1]:Ls)) (b3.ai++([r3.1]:List (af)))) (dG b9 (.inl r1.1) (IntKind.wrap .i64 (((bF b9 (.inl r1.1)).getD 0)+1))) r4.2)
 else((bI n 125 r4.2).bind fun r5 =>
 some ((af.mk b3.aD b3.aI (b3.av++([r1.1]:Ls)) (b3.ai++([r3.1]:List (af)))),(ak.mk r5.2.f_s r5.2.aC (!r5.1)))))) else none) else none)
end
abbrev fq(l:List (MK×Int)):D:=.eE none false (α:=Int) 0 rS l
abbrev cH(k0:Nat)(k1:Nat)(x:af):List D:=[vi x.aD,.str x.aI,.row k0,.row k1]
theorem pT(R_flow_reader_value__o0:ak->Option (af×Bool×ak))(hR_flow_reader_value__o0:yv R_flow_reader_value__o0)(n:Nat)(k:Nat):(∀(b2:af)(b1000000:ak)(o:af×ak),iN R_flow_reader_value__o0 n k b2 b1000000=some o->To 71 F0 w0 [(2,.own 2 0)] [(2,26,cH 4122 4123 o.1),(4122,9,[rc1 o.1.av]),(4123,26,[aP o.1.ai]),(1000000,137,aH o.2)] .ret Q->WG Tryz.prog 71 F0 w0 [(0,.own 1000000 0),(2,.own 2 0)] [(2,26,qc6 b2),(1000000,137,aH b1000000)] (cI (cB (cF Tryz.f127))) (cI (cB (cF Tryz.f127))) Q) /\
 (∀(b2:af)(b3:af)(b9:List (MK×Int))(b1000000:ak)(o:af×ak),fK R_flow_reader_value__o0 n k b2 b3 b9 b1000000=some o->To 71 F0 w0 [(2,.own 2 0)] [(2,26,cH 4122 4123 o.1),(4122,9,[rc1 o.1.av]),(4123,26,[aP o.1.ai]),(1000000,137,aH o.2)] .ret Q->WG Tryz.prog 71 F0 w0 [(0,.own 1000000 0),(2,.own 2 0),(3,.own 3 0),(4,.mp 9)] [(2,26,qc6 b2),(3,26,cH 4182 4183 b3),(9,156,[fq b9]),(4182,9,[rc1 b3.av]),(4183,26,[aP b3.ai]),(1000000,137,aH b1000000)] (cI (cB (cF Tryz.f127))) (cG 0 (cB (cF Tryz.f127))) Q):=by
 induction k with
 |zero=>exact⟨(by intro b2 b1000000 o h;cases h),(by intro b2 b3 b9 b1000000 o h;cases h)⟩
 |succ k ih =>
  refine⟨?_,?_⟩
  ·intro b2 b1000000 o h hQ
   rw[iN] at h
   refine WG.pass (Wp.seq (rg [0,2,3] [2,3,1000000] [(0,.own 1000000 0),(2,.own 2 0),(3,.own 3 0)] [(2,26,qc6 b2),(3,26,[vi 3,.str [],.val (.slice none 0 0),.val (.slice none 0 0)]),(1000000,137,aH b1000000)] (To.ah (Wp.seq (rr [] [(0,fq [])] [] [0,2,3,4] [2,3,9,1000000] [(0,.own 1000000 0),(2,.own 2 0),(3,.own 3 0),(4,.mp 9)] [(2,26,qc6 b2),(3,26,[vi 3,.str [],.val (.slice none 0 0),.val (.slice none 0 0)]),(9,156,[fq []]),(1000000,137,aH b1000000)] [(wo false rS)] (aj.cons (⟨fun _=>rfl,fun _ _=>rfl⟩) aj.nil) ?_)))))
   refine To.ah (Wp.seq (rg [0,2,3,4] [2,3,9,1000000] [(0,.own 1000000 0),(2,.own 2 0),(3,.own 3 0),(4,.mp 9)] [(2,26,qc6 b2),(3,26,[vi 3,.str [],.val (.slice none 0 0),.val (.slice none 0 0)]),(9,156,[fq []]),(xH b1000000)] (To.ah (Wp.seq (Wp.seq ?_)))))
   obtain⟨r1,hr1,h⟩:=ay h
   refine rb [] 1 ⟨[(1000000,1000000)],[(1000000,1000000)],[.own 1000000 0,.val (.int .u8 125)],[(xH b1000000)],vb r1.1,[(1000000,137,aH r1.2)]⟩ [0,2,3,4,18] [2,3,9,1000000] [(0,.own 1000000 0),(2,.own 2 0),(3,.own 3 0),(4,.mp 9),(18,vb r1.1)] [(2,26,qc6 b2),(3,26,[vi 3,.str [],.val (.slice none 0 0),.val (.slice none 0 0)]),(9,156,[fq []]),(1000000,137,aH r1.2)] ((bQ n 125 (EZ b1000000) _ hr1)) (To.ah (cn h (fun h=>?_) (fun h=>?_)))
   ·refine Wp.seq (rg [2] [2,1000000] [(2,.own 2 0)] [(2,26,[vi 3,.str [],.val (.slice none 0 0),.val (.slice none 0 0)]),(1000000,137,aH r1.2)] (To.ah (Wp.ret (To.aL (To.jX (.inr (.inl rfl)) (kt [2] [2,1000000] [(2,.own 2 0)] [(2,26,[vi 3,.str [],.val (.slice none 0 0),.val (.slice none 0 0)]),(1000000,137,aH r1.2)] (To.pre (St.l6 2 2 4122 9 (cY _) (by decide) (by kernel_rfl) (L':=[(2,26,[vi 3,.str [],.row 4122,.val (.slice none 0 0)]),(1000000,137,aH r1.2)]) (by kernel_rfl)) (kt [2] [2,4122,1000000] [(2,.own 2 0)] [(2,26,[vi 3,.str [],.row 4122,.val (.slice none 0 0)]),(4122,9,[rc1 []]),(1000000,137,aH r1.2)] (To.pre (St.l6 2 3 4123 26 (bC _) (by decide) (by kernel_rfl) (L':=[(2,26,[vi 3,.str [],.row 4122,.row 4123]),(4122,9,[rc1 []]),(1000000,137,aH r1.2)]) (by kernel_rfl)) (kt [2] [2,4122,4123,1000000] [(2,.own 2 0)] [(2,26,[vi 3,.str [],.row 4122,.row 4123]),(4122,9,[rc1 []]),(4123,26,[aP []]),(1000000,137,aH r1.2)] ?_))))))))))
    cases h
    exact hQ
   ·refine Wp.skip (To.ah (Wp.seq (kw [0,2,3,4,18] [2,3,9,1000000] [(0,.own 1000000 0),(2,.own 2 0),(3,.own 3 0),(4,.mp 9),(18,vb r1.1)] [(2,26,qc6 b2),(3,26,[vi 3,.str [],.val (.slice none 0 0),.val (.slice none 0 0)]),(9,156,[fq []]),(1000000,137,aH r1.2)] (Wp.pre (St.l6 3 2 4182 9 (cY _) (by decide) (by kernel_rfl) (L':=[(2,26,qc6 b2),(3,26,[vi 3,.str [],.row 4182,.val (.slice none 0 0)]),(9,156,[fq []]),(1000000,137,aH r1.2)]) (by kernel_rfl)) (kw [0,2,3,4,18] [2,3,9,4182,1000000] [(0,.own 1000000 0),(2,.own 2 0),(3,.own 3 0),(4,.mp 9),(18,vb r1.1)] [(2,26,qc6 b2),(3,26,[vi 3,.str [],.row 4182,.val (.slice none 0 0)]),(9,156,[fq []]),(4182,9,[rc1 []]),(1000000,137,aH r1.2)] (Wp.pre (St.l6 3 3 4183 26 (bC _) (by decide) (by kernel_rfl) (L':=[(2,26,qc6 b2),(3,26,[vi 3,.str [],.row 4182,.row 4183]),(9,156,[fq []]),(4182,9,[rc1 []]),(1000000,137,aH r1.2)]) (by kernel_rfl)) (kw [0,2,3,4,18] [2,3,9,4182,4183,1000000] [(0,.own 1000000 0),(2,.own 2 0),(3,.own 3 0),(4,.mp 9),(18,vb r1.1)] [(2,26,qc6 b2),(3,26,[vi 3,.str [],.row 4182,.row 4183]),(9,156,[fq []]),(4182,9,[rc1 []]),(4183,26,[aP []]),(1000000,137,aH r1.2)] (Wp.label (To.ah (Wp.seq ?_))))))))))
    obtain⟨r2,hr2,h⟩:=ay h
    refine rb [] 1 ⟨[(1000000,1000000)],[(1000000,1000000)],[.own 1000000 0],[(1000000,137,aH r1.2)],.str r2.1,[(1000000,137,aH r2.2)]⟩ [0,2,3,4,5] [2,3,9,4182,4183,1000000] [(0,.own 1000000 0),(2,.own 2 0),(3,.own 3 0),(4,.mp 9),(5,.str r2.1)] [(2,26,qc6 b2),(3,26,[vi 3,.str [],.row 4182,.row 4183]),(9,156,[fq []]),(4182,9,[rc1 []]),(4183,26,[aP []]),(1000000,137,aH r2.2)] ((mJ n r1.2 _ hr2)) (To.ah (Wp.seq (Wp.seq (rr [] [(2,vi ((bF ([]:List (MK×Int)) (.inl r2.1)).getD 0)),(4,fq (dG ([]:List (MK×Int)) (.inl r2.1) (IntKind.wrap .i64 (((bF ([]:List (MK×Int)) (.inl r2.1)).getD 0)+1))))] [] [0,2,3,4,5] [2,3,9,4182,4183,1000000] [(0,.own 1000000 0),(2,.own 2 0),(3,.own 3 0),(4,.mp 9),(5,.str r2.1)] [(2,26,qc6 b2),(3,26,[vi 3,.str [],.row 4182,.row 4183]),(9,156,[fq (dG ([]:List (MK×Int)) (.inl r2.1) (IntKind.wrap .i64 (((bF ([]:List (MK×Int)) (.inl r2.1)).getD 0)+1)))]),(4182,9,[rc1 []]),(4183,26,[aP []]),(1000000,137,aH r2.2)] [(true=true->ry false rS ([]:List (MK×Int)) (.inl r2.1) [vi 0] (vi ((bF ([]:List (MK×Int)) (.inl r2.1)).getD 0))),(∃l':List (MK×Int),(fq (dG ([]:List (MK×Int)) (.inl r2.1) (IntKind.wrap .i64 (((bF ([]:List (MK×Int)) (.inl r2.1)).getD 0)+1))):D)=fq l'/\za rS ([]:List (MK×Int)) (.inl r2.1) [vi (IntKind.wrap .i64 (((bF ([]:List (MK×Int)) (.inl r2.1)).getD 0)+1))] l')] (aj.cons (fun _=>⟨0,bq.of_eq (by kernel_rfl),by kernel_rfl⟩) (aj.cons (⟨_,rfl,(IntKind.wrap .i64 (((bF ([]:List (MK×Int)) (.inl r2.1)).getD 0)+1)),bq.of_eq (by kernel_rfl),rfl⟩) aj.nil)) ?_))))
    refine To.ah (Wp.seq ?_)
    obtain⟨x3,hx3,h⟩:=aW h
    refine rr [] [(7,vi ((bF (dG ([]:List (MK×Int)) (.inl r2.1) (IntKind.wrap .i64 (((bF ([]:List (MK×Int)) (.inl r2.1)).getD 0)+1))) (.inl r2.1)).getD 0))] [] [0,2,3,4,5,35] [2,3,9,4182,4183,1000000] [(0,.own 1000000 0),(2,.own 2 0),(3,.own 3 0),(4,.mp 9),(5,.str r2.1),(35,vb (bif r2.2.bD then true else(decide (((bF (dG ([]:List (MK×Int)) (.inl r2.1) (IntKind.wrap .i64 (((bF ([]:List (MK×Int)) (.inl r2.1)).getD 0)+1))) (.inl r2.1)).getD 0)>1))))] [(2,26,qc6 b2),(3,26,[vi 3,.str [],.row 4182,.row 4183]),(9,156,[fq (dG ([]:List (MK×Int)) (.inl r2.1) (IntKind.wrap .i64 (((bF ([]:List (MK×Int)) (.inl r2.1)).getD 0)+1)))]),(4182,9,[rc1 []]),(4183,26,[aP []]),(1000000,137,aH r2.2)] [((r2.2.bD==false)=true->ry false rS (dG ([]:List (MK×Int)) (.inl r2.1) (IntKind.wrap .i64 (((bF ([]:List (MK×Int)) (.inl r2.1)).getD 0)+1))) (.inl r2.1) [vi 0] (vi ((bF (dG ([]:List (MK×Int)) (.inl r2.1) (IntKind.wrap .i64 (((bF ([]:List (MK×Int)) (.inl r2.1)).getD 0)+1))) (.inl r2.1)).getD 0)))] (aj.cons (fun _=>⟨0,bq.of_eq (by kernel_rfl),by kernel_rfl⟩) aj.nil) ?_
    refine To.eq (K':=[(0,.own 1000000 0),(2,.own 2 0),(3,.own 3 0),(4,.mp 9),(5,.str r2.1),(35,vb x3)]) (L':=[(2,26,qc6 b2),(3,26,[vi 3,.str [],.row 4182,.row 4183]),(9,156,[fq (dG ([]:List (MK×Int)) (.inl r2.1) (IntKind.wrap .i64 (((bF ([]:List (MK×Int)) (.inl r2.1)).getD 0)+1)))]),(4182,9,[rc1 []]),(4183,26,[aP []]),(1000000,137,aH r2.2)]) (by cases hx3;rfl) (by cases hx3;rfl) (To.ah (cn h (fun h=>?_) (fun h=>?_)))
    ·refine Wp.seq (rg [2,3] [2,3,4182,4183,1000000] [(2,.own 2 0),(3,.own 3 0)] [(2,26,qc6 b2),(3,26,[vi 3,.str [],.row 4182,.row 4183]),(4182,9,[rc1 []]),(4183,26,[aP []]),(1000000,137,[.str r2.2.f_s,vi r2.2.aC,vb true])] (To.ah (Wp.seq (rg [2] [2,4182,4183,1000000] [(2,.own 2 0)] [(2,26,[vi 3,.str [],.row 4182,.row 4183]),(4182,9,[rc1 []]),(4183,26,[aP []]),(1000000,137,[.str r2.2.f_s,vi r2.2.aC,vb true])] (To.ah (Wp.ret (To.aL (To.jX (.inr (.inl rfl)) (nt [2] [2,4182,4183,1000000] [(4182,4122),(4183,4123)] [2] [2,4122,4123,1000000] [(2,.own 2 0)] [(2,26,[vi 3,.str [],.row 4122,.row 4123]),(4122,9,[rc1 []]),(4123,26,[aP []]),(1000000,137,[.str r2.2.f_s,vi r2.2.aC,vb true])] ?_)))))))))
     cases h
     exact hQ
    ·refine Wp.skip (To.ah (Wp.seq ?_))
     obtain⟨r4,hr4,h⟩:=ay h
     refine rb [] 1 ⟨[(1000000,1000000)],[(1000000,1000000)],[.own 1000000 0],[(1000000,137,aH r2.2)],.tup [.agg (qc6 r4.1),vb r4.2.1],[(1000000,137,aH r4.2.2)]⟩ [0,2,3,4,5,6] [2,3,6,9,4182,4183,1000000] [(0,.own 1000000 0),(2,.own 2 0),(3,.own 3 0),(4,.mp 9),(5,.str r2.1),(6,.own 6 0)] [(2,26,qc6 b2),(3,26,[vi 3,.str [],.row 4182,.row 4183]),(6,26,qc6 r4.1),(9,156,[fq (dG ([]:List (MK×Int)) (.inl r2.1) (IntKind.wrap .i64 (((bF ([]:List (MK×Int)) (.inl r2.1)).getD 0)+1)))]),(4182,9,[rc1 []]),(4183,26,[aP []]),(1000000,137,aH r4.2.2)] ((hR_flow_reader_value__o0 r2.2 _ hr4)) (To.ah (Wp.seq ?_))
     obtain⟨hc7,h⟩:=aF h
     obtain⟨hc8,h⟩:=aF h
     refine Wp.qL hm hΓ [] [(3,ls [r2.1]),(4,ls (([]:Ls)++([r2.1]:Ls))),(8,cv [r4.1]),(9,cv (([]:List (af))++([r4.1]:List (af))))] [] [0,2,3,4,5,6,45,46,47,48,49,50,51,52,53,54,55,56] [2,3,6,9,48,49,53,54,4182,4183,1000000] [0,2,3,4] [2,3,9,49,54,1000000] (K':=[(0,.own 1000000 0),(2,.own 2 0),(3,.own 3 0),(4,.mp 9)]) (L':=[(2,26,qc6 b2),(3,26,[vi 3,.str [],.row 49,.row 54]),(9,156,[fq (dG ([]:List (MK×Int)) (.inl r2.1) (IntKind.wrap .i64 (((bF ([]:List (MK×Int)) (.inl r2.1)).getD 0)+1)))]),(49,9,[rc1 (([]:Ls)++([r2.1]:Ls))]),(54,26,[aP (([]:List (af))++([r4.1]:List (af)))]),(1000000,137,aH r4.2.2)]) (ob:=[(dC 1 [.str r2.1] 1 (ls [r2.1])/\aQ (ls [r2.1])),(decide ((List.length ([]:Ls)+List.length ([r2.1]:Ls))*(16+1)<=limit))=true,(eQ [] dc ([]:Ls) (List.flatMap dc ([r2.1]:Ls)) (List.length ([r2.1]:Ls)) (ls (([]:Ls)++([r2.1]:Ls)))/\aQ (ls (([]:Ls)++([r2.1]:Ls)))),(dC 4 (qc6 r4.1) 1 (cv [r4.1])/\aQ (cv [r4.1])),(decide ((List.length ([]:List (af))+List.length ([r4.1]:List (af)))*(72+1)<=limit))=true,(eQ zx3 df ([]:List (af)) (List.flatMap df ([r4.1]:List (af))) (List.length ([r4.1]:List (af))) (cv (([]:List (af))++([r4.1]:List (af))))/\aQ (cv (([]:List (af))++([r4.1]:List (af)))))]) (by kernel_rfl) (by kernel_rfl) (aj.cons (fL (by kernel_rfl) rfl (by kernel_rfl) (cY _)) (aj.cons hc7 (aj.cons (eG rfl rfl (cY _)) (aj.cons (fL (by kernel_rfl) rfl (by kernel_rfl) (bC _)) (aj.cons hc8 (aj.cons (eG rfl rfl (bC _)) aj.nil)))))) (To.ah (Wp.seq (Wp.seq (rg [0,2,3,4,60] [2,3,9,49,54,1000000] [(0,.own 1000000 0),(2,.own 2 0),(3,.own 3 0),(4,.mp 9),(60,vb r4.2.2.bD)] [(2,26,qc6 b2),(3,26,[vi 3,.str [],.row 49,.row 54]),(9,156,[fq (dG ([]:List (MK×Int)) (.inl r2.1) (IntKind.wrap .i64 (((bF ([]:List (MK×Int)) (.inl r2.1)).getD 0)+1)))]),(49,9,[rc1 (([]:Ls)++([r2.1]:Ls))]),(54,26,[aP (([]:List (af))++([r4.1]:List (af)))]),(1000000,137,aH r4.2.2)] (To.ah (cn h (fun h=>?_) (fun h=>?_)))))))
     ·refine Wp.seq (rg [2] [2,49,54,1000000] [(2,.own 2 0)] [(2,26,[vi 3,.str [],.row 49,.row 54]),(49,9,[rc1 (([]:Ls)++([r2.1]:Ls))]),(54,26,[aP (([]:List (af))++([r4.1]:List (af)))]),(1000000,137,aH r4.2.2)] (To.ah (Wp.ret (To.aL (To.jX (.inr (.inl rfl)) (nt [2] [2,49,54,1000000] [(49,4122),(54,4123)] [2] [2,4122,4123,1000000] [(2,.own 2 0)] [(2,26,[vi 3,.str [],.row 4122,.row 4123]),(4122,9,[rc1 (([]:Ls)++([r2.1]:Ls))]),(4123,26,[aP (([]:List (af))++([r4.1]:List (af)))]),(1000000,137,aH r4.2.2)] ?_))))))
      cases h
      exact hQ
     ·refine Wp.skip (To.ah (Wp.seq (Wp.seq ?_)))
      obtain⟨r5,hr5,h⟩:=ay h
      refine rb [] 1 ⟨[(1000000,1000000)],[(1000000,1000000)],[.own 1000000 0,.val (.int .u8 44)],[(1000000,137,aH r4.2.2)],vb r5.1,[(1000000,137,aH r5.2)]⟩ [0,2,3,4,63] [2,3,9,49,54,1000000] [(0,.own 1000000 0),(2,.own 2 0),(3,.own 3 0),(4,.mp 9),(63,vb r5.1)] [(2,26,qc6 b2),(3,26,[vi 3,.str [],.row 49,.row 54]),(9,156,[fq (dG ([]:List (MK×Int)) (.inl r2.1) (IntKind.wrap .i64 (((bF ([]:List (MK×Int)) (.inl r2.1)).getD 0)+1)))]),(49,9,[rc1 (([]:Ls)++([r2.1]:Ls))]),(54,26,[aP (([]:List (af))++([r4.1]:List (af)))]),(1000000,137,aH r5.2)] ((bQ n 44 r4.2.2 _ hr5)) (To.ah (cn h (fun h=>?_) (fun h=>?_)))
      ·refine Wp.goto (To.wI (nt [0,2,3,4] [2,3,9,49,54,1000000] [(49,4182),(54,4183)] [0,2,3,4] [2,3,9,4182,4183,1000000] [(0,.own 1000000 0),(2,.own 2 0),(3,.own 3 0),(4,.mp 9)] [(2,26,qc6 b2),(3,26,[vi 3,.str [],.row 4182,.row 4183]),(9,156,[fq (dG ([]:List (MK×Int)) (.inl r2.1) (IntKind.wrap .i64 (((bF ([]:List (MK×Int)) (.inl r2.1)).getD 0)+1)))]),(4182,9,[rc1 (([]:Ls)++([r2.1]:Ls))]),(4183,26,[aP (([]:List (af))++([r4.1]:List (af)))]),(1000000,137,aH r5.2)] (To.goto (rest:=cG 0 (cB (cF Tryz.f127))) (by kernel_rfl) ?_)))
       exact ih.2 b2 (af.mk 3 [] (([]:Ls)++([r2.1]:Ls)) (([]:List (af))++([r4.1]:List (af)))) (dG ([]:List (MK×Int)) (.inl r2.1) (IntKind.wrap .i64 (((bF ([]:List (MK×Int)) (.inl r2.1)).getD 0)+1))) r5.2 _ h hQ
      ·refine Wp.skip (To.ah (Wp.seq ?_))
       obtain⟨r6,hr6,h⟩:=ay h
       refine rb [] 2 ⟨[(1000000,1000000)],[(1000000,1000000)],[.own 1000000 0,.val (.int .u8 125)],[(1000000,137,aH r5.2)],vb r6.1,[(1000000,137,aH r6.2)]⟩ [2,3] [2,3,49,54,1000000] [(2,.own 2 0),(3,.own 3 0)] [(2,26,qc6 b2),(3,26,[vi 3,.str [],.row 49,.row 54]),(49,9,[rc1 (([]:Ls)++([r2.1]:Ls))]),(54,26,[aP (([]:List (af))++([r4.1]:List (af)))]),(1000000,137,[.str r6.2.f_s,vi r6.2.aC,vb (!r6.1)])] ((bQ n 125 r5.2 _ hr6)) (To.ah (Wp.seq (rg [2] [2,49,54,1000000] [(2,.own 2 0)] [(2,26,[vi 3,.str [],.row 49,.row 54]),(49,9,[rc1 (([]:Ls)++([r2.1]:Ls))]),(54,26,[aP (([]:List (af))++([r4.1]:List (af)))]),(1000000,137,[.str r6.2.f_s,vi r6.2.aC,vb (!r6.1)])] (To.ah (Wp.ret (To.jX (.inr (.inl rfl)) (nt [2] [2,49,54,1000000] [(49,4122),(54,4123)] [2] [2,4122,4123,1000000] [(2,.own 2 0)] [(2,26,[vi 3,.str [],.row 4122,.row 4123]),(4122,9,[rc1 (([]:Ls)++([r2.1]:Ls))]),(4123,26,[aP (([]:List (af))++([r4.1]:List (af)))]),(1000000,137,[.str r6.2.f_s,vi r6.2.aC,vb (!r6.1)])] ?_)))))))
       cases h
       exact hQ
  ·intro b2 b3 b9 b1000000 o h hQ
   rw[fK] at h
   refine WG.pass (Wp.seq (Wp.skip (To.ah (Wp.seq ?_))))
   obtain⟨r1,hr1,h⟩:=ay h
   refine rb [] 1 ⟨[(1000000,1000000)],[(1000000,1000000)],[.own 1000000 0],[(1000000,137,aH b1000000)],.str r1.1,[(1000000,137,aH r1.2)]⟩ [0,2,3,4,5] [2,3,9,4182,4183,1000000] [(0,.own 1000000 0),(2,.own 2 0),(3,.own 3 0),(4,.mp 9),(5,.str r1.1)] [(2,26,qc6 b2),(3,26,cH 4182 4183 b3),(9,156,[fq b9]),(4182,9,[rc1 b3.av]),(4183,26,[aP b3.ai]),(1000000,137,aH r1.2)] ((mJ n b1000000 _ hr1)) (To.ah (Wp.seq (Wp.seq (rr [] [(2,vi ((bF b9 (.inl r1.1)).getD 0)),(4,fq (dG b9 (.inl r1.1) (IntKind.wrap .i64 (((bF b9 (.inl r1.1)).getD 0)+1))))] [] [0,2,3,4,5] [2,3,9,4182,4183,1000000] [(0,.own 1000000 0),(2,.own 2 0),(3,.own 3 0),(4,.mp 9),(5,.str r1.1)] [(2,26,qc6 b2),(3,26,cH 4182 4183 b3),(9,156,[fq (dG b9 (.inl r1.1) (IntKind.wrap .i64 (((bF b9 (.inl r1.1)).getD 0)+1)))]),(4182,9,[rc1 b3.av]),(4183,26,[aP b3.ai]),(1000000,137,aH r1.2)] [(true=true->ry false rS b9 (.inl r1.1) [vi 0] (vi ((bF b9 (.inl r1.1)).getD 0))),(∃l':List (MK×Int),(fq (dG b9 (.inl r1.1) (IntKind.wrap .i64 (((bF b9 (.inl r1.1)).getD 0)+1))):D)=fq l'/\za rS b9 (.inl r1.1) [vi (IntKind.wrap .i64 (((bF b9 (.inl r1.1)).getD 0)+1))] l')] (aj.cons (fun _=>⟨0,bq.of_eq (by kernel_rfl),by kernel_rfl⟩) (aj.cons (⟨_,rfl,(IntKind.wrap .i64 (((bF b9 (.inl r1.1)).getD 0)+1)),bq.of_eq (by kernel_rfl),rfl⟩) aj.nil)) ?_))))
   refine To.ah (Wp.seq ?_)
   obtain⟨x2,hx2,h⟩:=aW h
   refine rr [] [(7,vi ((bF (dG b9 (.inl r1.1) (IntKind.wrap .i64 (((bF b9 (.inl r1.1)).getD 0)+1))) (.inl r1.1)).getD 0))] [] [0,2,3,4,5,35] [2,3,9,4182,4183,1000000] [(0,.own 1000000 0),(2,.own 2 0),(3,.own 3 0),(4,.mp 9),(5,.str r1.1),(35,vb (bif r1.2.bD then true else(decide (((bF (dG b9 (.inl r1.1) (IntKind.wrap .i64 (((bF b9 (.inl r1.1)).getD 0)+1))) (.inl r1.1)).getD 0)>1))))] [(2,26,qc6 b2),(3,26,cH 4182 4183 b3),(9,156,[fq (dG b9 (.inl r1.1) (IntKind.wrap .i64 (((bF b9 (.inl r1.1)).getD 0)+1)))]),(4182,9,[rc1 b3.av]),(4183,26,[aP b3.ai]),(1000000,137,aH r1.2)] [((r1.2.bD==false)=true->ry false rS (dG b9 (.inl r1.1) (IntKind.wrap .i64 (((bF b9 (.inl r1.1)).getD 0)+1))) (.inl r1.1) [vi 0] (vi ((bF (dG b9 (.inl r1.1) (IntKind.wrap .i64 (((bF b9 (.inl r1.1)).getD 0)+1))) (.inl r1.1)).getD 0)))] (aj.cons (fun _=>⟨0,bq.of_eq (by kernel_rfl),by kernel_rfl⟩) aj.nil) ?_
   refine To.eq (K':=[(0,.own 1000000 0),(2,.own 2 0),(3,.own 3 0),(4,.mp 9),(5,.str r1.1),(35,vb x2)]) (L':=[(2,26,qc6 b2),(3,26,cH 4182 4183 b3),(9,156,[fq (dG b9 (.inl r1.1) (IntKind.wrap .i64 (((bF b9 (.inl r1.1)).getD 0)+1)))]),(4182,9,[rc1 b3.av]),(4183,26,[aP b3.ai]),(1000000,137,aH r1.2)]) (by cases hx2;rfl) (by cases hx2;rfl) (To.ah (cn h (fun h=>?_) (fun h=>?_)))
   ·refine Wp.seq (rg [2,3] [2,3,4182,4183,1000000] [(2,.own 2 0),(3,.own 3 0)] [(2,26,qc6 b2),(3,26,cH 4182 4183 b3),(4182,9,[rc1 b3.av]),(4183,26,[aP b3.ai]),(1000000,137,[.str r1.2.f_s,vi r1.2.aC,vb true])] (To.ah (Wp.seq (rg [2] [2,4182,4183,1000000] [(2,.own 2 0)] [(2,26,cH 4182 4183 b3),(4182,9,[rc1 b3.av]),(4183,26,[aP b3.ai]),(1000000,137,[.str r1.2.f_s,vi r1.2.aC,vb true])] (To.ah (Wp.ret (To.aL (To.jX (.inr (.inl rfl)) (nt [2] [2,4182,4183,1000000] [(4182,4122),(4183,4123)] [2] [2,4122,4123,1000000] [(2,.own 2 0)] [(2,26,cH 4122 4123 b3),(4122,9,[rc1 b3.av]),(4123,26,[aP b3.ai]),(1000000,137,[.str r1.2.f_s,vi r1.2.aC,vb true])] ?_)))))))))
    cases h
    exact hQ
   ·refine Wp.skip (To.ah (Wp.seq ?_))
    obtain⟨r3,hr3,h⟩:=ay h
    refine rb [] 1 ⟨[(1000000,1000000)],[(1000000,1000000)],[.own 1000000 0],[(1000000,137,aH r1.2)],.tup [.agg (qc6 r3.1),vb r3.2.1],[(1000000,137,aH r3.2.2)]⟩ [0,2,3,4,5,6] [2,3,6,9,4182,4183,1000000] [(0,.own 1000000 0),(2,.own 2 0),(3,.own 3 0),(4,.mp 9),(5,.str r1.1),(6,.own 6 0)] [(2,26,qc6 b2),(3,26,cH 4182 4183 b3),(6,26,qc6 r3.1),(9,156,[fq (dG b9 (.inl r1.1) (IntKind.wrap .i64 (((bF b9 (.inl r1.1)).getD 0)+1)))]),(4182,9,[rc1 b3.av]),(4183,26,[aP b3.ai]),(1000000,137,aH r3.2.2)] ((hR_flow_reader_value__o0 r1.2 _ hr3)) (To.ah (Wp.seq ?_))
    obtain⟨hc6,h⟩:=aF h
    obtain⟨hc7,h⟩:=aF h
    refine Wp.qL hm hΓ [] [(3,ls [r1.1]),(4,ls (b3.av++([r1.1]:Ls))),(8,cv [r3.1]),(9,cv (b3.ai++([r3.1]:List (af))))] [] [0,2,3,4,5,6,45,46,47,48,49,50,51,52,53,54,55,56] [2,3,6,9,48,49,53,54,4182,4183,1000000] [0,2,3,4] [2,3,9,49,54,1000000] (K':=[(0,.own 1000000 0),(2,.own 2 0),(3,.own 3 0),(4,.mp 9)]) (L':=[(2,26,qc6 b2),(3,26,cH 49 54 b3),(9,156,[fq (dG b9 (.inl r1.1) (IntKind.wrap .i64 (((bF b9 (.inl r1.1)).getD 0)+1)))]),(49,9,[rc1 (b3.av++([r1.1]:Ls))]),(54,26,[aP (b3.ai++([r3.1]:List (af)))]),(1000000,137,aH r3.2.2)]) (ob:=[(dC 1 [.str r1.1] 1 (ls [r1.1])/\aQ (ls [r1.1])),(decide ((List.length b3.av+List.length ([r1.1]:Ls))*(16+1)<=limit))=true,(eQ [] dc b3.av (List.flatMap dc ([r1.1]:Ls)) (List.length ([r1.1]:Ls)) (ls (b3.av++([r1.1]:Ls)))/\aQ (ls (b3.av++([r1.1]:Ls)))),(dC 4 (qc6 r3.1) 1 (cv [r3.1])/\aQ (cv [r3.1])),(decide ((List.length b3.ai+List.length ([r3.1]:List (af)))*(72+1)<=limit))=true,(eQ zx3 df b3.ai (List.flatMap df ([r3.1]:List (af))) (List.length ([r3.1]:List (af))) (cv (b3.ai++([r3.1]:List (af))))/\aQ (cv (b3.ai++([r3.1]:List (af)))))]) (by kernel_rfl) (by kernel_rfl) (aj.cons (fL (by kernel_rfl) rfl (by kernel_rfl) (cY _)) (aj.cons hc6 (aj.cons (eG rfl rfl (cY _)) (aj.cons (fL (by kernel_rfl) rfl (by kernel_rfl) (bC _)) (aj.cons hc7 (aj.cons (eG rfl rfl (bC _)) aj.nil)))))) (To.ah (Wp.seq (Wp.seq (rg [0,2,3,4,60] [2,3,9,49,54,1000000] [(0,.own 1000000 0),(2,.own 2 0),(3,.own 3 0),(4,.mp 9),(60,vb r3.2.2.bD)] [(2,26,qc6 b2),(3,26,cH 49 54 b3),(9,156,[fq (dG b9 (.inl r1.1) (IntKind.wrap .i64 (((bF b9 (.inl r1.1)).getD 0)+1)))]),(49,9,[rc1 (b3.av++([r1.1]:Ls))]),(54,26,[aP (b3.ai++([r3.1]:List (af)))]),(1000000,137,aH r3.2.2)] (To.ah (cn h (fun h=>?_) (fun h=>?_)))))))
    ·refine Wp.seq (rg [2] [2,49,54,1000000] [(2,.own 2 0)] [(2,26,cH 49 54 b3),(49,9,[rc1 (b3.av++([r1.1]:Ls))]),(54,26,[aP (b3.ai++([r3.1]:List (af)))]),(1000000,137,aH r3.2.2)] (To.ah (Wp.ret (To.aL (To.jX (.inr (.inl rfl)) (nt [2] [2,49,54,1000000] [(49,4122),(54,4123)] [2] [2,4122,4123,1000000] [(2,.own 2 0)] [(2,26,cH 4122 4123 b3),(4122,9,[rc1 (b3.av++([r1.1]:Ls))]),(4123,26,[aP (b3.ai++([r3.1]:List (af)))]),(1000000,137,aH r3.2.2)] ?_))))))
     cases h
     exact hQ
    ·refine Wp.skip (To.ah (Wp.seq (Wp.seq ?_)))
     obtain⟨r4,hr4,h⟩:=ay h
     refine rb [] 1 ⟨[(1000000,1000000)],[(1000000,1000000)],[.own 1000000 0,.val (.int .u8 44)],[(1000000,137,aH r3.2.2)],vb r4.1,[(1000000,137,aH r4.2)]⟩ [0,2,3,4,63] [2,3,9,49,54,1000000] [(0,.own 1000000 0),(2,.own 2 0),(3,.own 3 0),(4,.mp 9),(63,vb r4.1)] [(2,26,qc6 b2),(3,26,cH 49 54 b3),(9,156,[fq (dG b9 (.inl r1.1) (IntKind.wrap .i64 (((bF b9 (.inl r1.1)).getD 0)+1)))]),(49,9,[rc1 (b3.av++([r1.1]:Ls))]),(54,26,[aP (b3.ai++([r3.1]:List (af)))]),(1000000,137,aH r4.2)] ((bQ n 44 r3.2.2 _ hr4)) (To.ah (cn h (fun h=>?_) (fun h=>?_)))
     ·refine Wp.goto (To.wI (nt [0,2,3,4] [2,3,9,49,54,1000000] [(49,4182),(54,4183)] [0,2,3,4] [2,3,9,4182,4183,1000000] [(0,.own 1000000 0),(2,.own 2 0),(3,.own 3 0),(4,.mp 9)] [(2,26,qc6 b2),(3,26,cH 4182 4183 b3),(9,156,[fq (dG b9 (.inl r1.1) (IntKind.wrap .i64 (((bF b9 (.inl r1.1)).getD 0)+1)))]),(4182,9,[rc1 (b3.av++([r1.1]:Ls))]),(4183,26,[aP (b3.ai++([r3.1]:List (af)))]),(1000000,137,aH r4.2)] (To.goto (rest:=cG 0 (cB (cF Tryz.f127))) (by kernel_rfl) ?_)))
      exact ih.2 b2 (af.mk b3.aD b3.aI (b3.av++([r1.1]:Ls)) (b3.ai++([r3.1]:List (af)))) (dG b9 (.inl r1.1) (IntKind.wrap .i64 (((bF b9 (.inl r1.1)).getD 0)+1))) r4.2 _ h hQ
     ·refine Wp.skip (To.ah (Wp.seq ?_))
      obtain⟨r5,hr5,h⟩:=ay h
      refine rb [] 2 ⟨[(1000000,1000000)],[(1000000,1000000)],[.own 1000000 0,.val (.int .u8 125)],[(1000000,137,aH r4.2)],vb r5.1,[(1000000,137,aH r5.2)]⟩ [2,3] [2,3,49,54,1000000] [(2,.own 2 0),(3,.own 3 0)] [(2,26,qc6 b2),(3,26,cH 49 54 b3),(49,9,[rc1 (b3.av++([r1.1]:Ls))]),(54,26,[aP (b3.ai++([r3.1]:List (af)))]),(1000000,137,[.str r5.2.f_s,vi r5.2.aC,vb (!r5.1)])] ((bQ n 125 r4.2 _ hr5)) (To.ah (Wp.seq (rg [2] [2,49,54,1000000] [(2,.own 2 0)] [(2,26,cH 49 54 b3),(49,9,[rc1 (b3.av++([r1.1]:Ls))]),(54,26,[aP (b3.ai++([r3.1]:List (af)))]),(1000000,137,[.str r5.2.f_s,vi r5.2.aC,vb (!r5.1)])] (To.ah (Wp.ret (To.jX (.inr (.inl rfl)) (nt [2] [2,49,54,1000000] [(49,4122),(54,4123)] [2] [2,4122,4123,1000000] [(2,.own 2 0)] [(2,26,cH 4122 4123 b3),(4122,9,[rc1 (b3.av++([r1.1]:Ls))]),(4123,26,[aP (b3.ai++([r3.1]:List (af)))]),(1000000,137,[.str r5.2.f_s,vi r5.2.aC,vb (!r5.1)])] ?_)))))))
      cases h
      exact hQ
def jY(R_flow_reader_value__o0:ak->Option (af×Bool×ak))(n:Nat)(h0:ak):Option (af×ak) :=
 (iN R_flow_reader_value__o0 n n (af.mk 0 [] [] []) h0).bind fun o1 =>
 some (o1.1,o1.2)
theorem rG(R_flow_reader_value__o0:ak->Option (af×Bool×ak))(hR_flow_reader_value__o0:yv R_flow_reader_value__o0)(n:Nat)(h0:ak)(r:af×ak)(h:jY R_flow_reader_value__o0 n h0=some r):aV Tryz.prog 127 [.own 1000000 0] [(1000000,137,aH h0)] (.agg (qc6 r.1)) [(1000000,137,aH r.2)]:=by
 unfold jY at h
 refine bo Tryz.f127 rfl fun F0 w0=>?_
 refine Wp.seq (rg [0,2] [2,1000000] [(0,.own 1000000 0),(2,.own 2 0)] [(2,26,[vi 0,.str [],.val (.slice none 0 0),.val (.slice none 0 0)]),(1000000,137,aH h0)] (To.ah ?_))
 obtain⟨o1,ho1,h⟩:=ay h
 refine kw [0,2] [2,1000000] [(0,.own 1000000 0),(2,.own 2 0)] [(2,26,[vi 0,.str [],.val (.slice none 0 0),.val (.slice none 0 0)]),(1000000,137,aH h0)] (Wp.weak (K':=[(0,.own 1000000 0),(2,.own 2 0)]) (L':=[(2,26,[vi 0,.str [],ls [],tn4 []]),(1000000,137,aH h0)]) (.cons (.refl _) (.cons (.refl _) .nil)) (.cons (.cons (.refl _) (.cons (.refl _) (.cons (.zero _ _) (.cons (.fE _ _ _) .nil)))) (.cons (.cons (.refl _) (.cons (.refl _) (.cons (.refl _) .nil))) .nil)) (Wp.BR ((pT R_flow_reader_value__o0 hR_flow_reader_value__o0 n n).1 zx3 h0 o1 ho1 (kt [2] [2,4122,4123,1000000] [(2,.own 2 0)] [(2,26,cH 4122 4123 o1.1),(4122,9,[rc1 o1.1.av]),(4123,26,[aP o1.1.ai]),(1000000,137,aH o1.2)] (To.pre (St.settle (ks:=[4122,4123]) (kk:=[2]) (kl:=[2,4122,4123,1000000]) (K':=[(2,.own 2 0)]) (L':=[(2,26,cH 4122 4123 o1.1),(4122,9,[rc2 o1.1.av]),(4123,26,[qf o1.1.ai]),(1000000,137,aH o1.2)]) (by kernel_rfl)) (To.pre (St.BG [2] (L':=[(2,26,FT o1.1),(4122,9,[rc2 o1.1.av]),(4123,26,[qf o1.1.ai]),(1000000,137,aH o1.2)]) (by kernel_rfl)) (To.weak (K':=[(2,.own 2 0)]) (L':=[(2,26,qc6 o1.1),(4122,9,[rc2 o1.1.av]),(4123,26,[qf o1.1.ai]),(1000000,137,aH o1.2)]) (.cons (.refl _) .nil) (.cons (.cons (.refl _) (.cons (.refl _) (.cons (.refl _) (.cons (.close _ _ _ _) .nil)))) (.cons (.cons (.refl _) .nil) (.cons (.cons (.refl _) .nil) (.cons (.cons (.refl _) (.cons (.refl _) (.cons (.refl _) .nil))) .nil)))) ?_)))))))
 cases h
 exact To.dL hΓ [1000000] (by kernel_rfl) (by kernel_rfl)
def jf(R_flow_reader_value__o0:ak->Option (af×Bool×ak))(n:Nat)(v8:Int)(v17:Bool)(b2:af)(b1000000:ak):Option (Bool) :=
 if v17=true then some v17
 else(some (v8==39))
theorem pY(R_flow_reader_value__o0:ak->Option (af×Bool×ak))(hR_flow_reader_value__o0:yv R_flow_reader_value__o0)(n:Nat)(v8:Int)(v17:Bool)(b2:af)(b1000000:ak)(o:Bool)(h:jf R_flow_reader_value__o0 n v8 v17 b2 b1000000=some o)(hQ:To 44 F0 w0 [(0,.own 1000000 0),(2,.own 2 0),(17,vb o)] [(2,26,qc6 b2),(1000000,137,aH b1000000)] .normal Q):Wp Tryz.prog 44 F0 w0 [(0,.own 1000000 0),(2,.own 2 0),(8,.val (.int .u8 v8)),(17,vb v17)] [(2,26,qc6 b2),(1000000,137,aH b1000000)] (cB (cA (cE (cB (cE (cB (cI (cB (cA (cB (cF Tryz.f112))))))))))) Q:=by
 unfold jf at h
 refine cn h (fun h=>?_) (fun h=>?_)
 ·refine Wp.skip (kt [0,2,17] [2,1000000] [(0,.own 1000000 0),(2,.own 2 0),(17,vb v17)] [(2,26,qc6 b2),(1000000,137,aH b1000000)] ?_)
  cases h
  exact hQ
 ·refine rg [0,2,17] [2,1000000] [(0,.own 1000000 0),(2,.own 2 0),(17,vb (v8==39))] [(2,26,qc6 b2),(1000000,137,aH b1000000)] (kt [0,2,17] [2,1000000] [(0,.own 1000000 0),(2,.own 2 0),(17,vb (v8==39))] [(2,26,qc6 b2),(1000000,137,aH b1000000)] ?_)
  cases h
  exact hQ
def ji(R_flow_reader_value__o0:ak->Option (af×Bool×ak))(n:Nat)(v8:Int)(b2:af)(b1000000:ak):Option (Sum (af×ak) (Bool×af×ak)) :=
 if(v8==91)=true then((lh R_flow_reader_value__o0 n b1000000).bind fun r2 =>
 some (.inr (true,r2.1,r2.2)))
 else(if(v8==123)=true then((jY R_flow_reader_value__o0 n b1000000).bind fun r3 =>
 some (.inr (true,r3.1,r3.2)))
 else((jf R_flow_reader_value__o0 n v8 (v8==34) b2 b1000000).bind fun o4 =>
 if o4=true then((iz n b1000000).bind fun r5 =>
 bM (pQ r5.1) fun r6 =>
 some (.inr (true,r6,r5.2)))
 else(some (.inl (b2,b1000000)))))
theorem pR(R_flow_reader_value__o0:ak->Option (af×Bool×ak))(hR_flow_reader_value__o0:yv R_flow_reader_value__o0)(n:Nat)(v8:Int)(b2:af)(b1000000:ak)(o:Sum (af×ak) (Bool×af×ak))(h:ji R_flow_reader_value__o0 n v8 b2 b1000000=some o)(hQ:(Sum.elim (fun s=>To 44 F0 w0 [(0,.own 1000000 0),(2,.own 2 0)] [(2,26,qc6 s.1),(1000000,137,aH s.2)] .normal Q) (fun s=>To 44 F0 w0 [(2,.own 2 0),(3,vb s.1)] [(2,26,qc6 s.2.1),(1000000,137,aH s.2.2)] .ret Q)) o):Wp Tryz.prog 44 F0 w0 [(0,.own 1000000 0),(2,.own 2 0),(8,.val (.int .u8 v8))] [(2,26,qc6 b2),(1000000,137,aH b1000000)] (cB (cA (cB (cF Tryz.f112)))) Q:=by
 unfold ji at h
 refine Wp.block (Wp.seq (rg [0,2,8,9] [2,1000000] [(0,.own 1000000 0),(2,.own 2 0),(8,.val (.int .u8 v8)),(9,vb (v8==91))] [(2,26,qc6 b2),(1000000,137,aH b1000000)] (To.ah (cn h (fun h=>?_) (fun h=>?_)))))
 ·refine Wp.seq ?_
  obtain⟨r2,hr2,h⟩:=ay h
  refine rb [] 1 ⟨[(1000000,1000000)],[(1000000,1000000)],[.own 1000000 0],[(1000000,137,aH b1000000)],.agg (qc6 r2.1),[(1000000,137,aH r2.2)]⟩ [2,3] [2,1000000] [(2,.own 2 0),(3,vb true)] [(2,26,qc6 r2.1),(1000000,137,aH r2.2)] ((sR R_flow_reader_value__o0 hR_flow_reader_value__o0 n b1000000 _ hr2)) (To.ah (Wp.ret (To.aR ?_)))
  cases h
  exact hQ
 ·refine Wp.seq (rg [0,2,8,13] [2,1000000] [(0,.own 1000000 0),(2,.own 2 0),(8,.val (.int .u8 v8)),(13,vb (v8==123))] [(2,26,qc6 b2),(1000000,137,aH b1000000)] (To.ah (cn h (fun h=>?_) (fun h=>?_))))
  ·refine Wp.seq ?_
   obtain⟨r3,hr3,h⟩:=ay h
   refine rb [] 1 ⟨[(1000000,1000000)],[(1000000,1000000)],[.own 1000000 0],[(1000000,137,aH b1000000)],.agg (qc6 r3.1),[(1000000,137,aH r3.2)]⟩ [2,3] [2,1000000] [(2,.own 2 0),(3,vb true)] [(2,26,qc6 r3.1),(1000000,137,aH r3.2)] ((rG R_flow_reader_value__o0 hR_flow_reader_value__o0 n b1000000 _ hr3)) (To.ah (Wp.ret (To.aR ?_)))
   cases h
   exact hQ
  ·refine Wp.seq (Wp.seq (rg [0,2,8,17] [2,1000000] [(0,.own 1000000 0),(2,.own 2 0),(8,.val (.int .u8 v8)),(17,vb (v8==34))] [(2,26,qc6 b2),(1000000,137,aH b1000000)] (To.ah ?_)))
   obtain⟨o4,ho4,h⟩:=ay h
   refine kw [0,2,8,17] [2,1000000] [(0,.own 1000000 0),(2,.own 2 0),(8,.val (.int .u8 v8)),(17,vb (v8==34))] [(2,26,qc6 b2),(1000000,137,aH b1000000)] (pY R_flow_reader_value__o0 hR_flow_reader_value__o0 n v8 (v8==34) b2 b1000000 o4 ho4 (To.ah (cn h (fun h=>?_) (fun h=>?_))))
   ·refine Wp.seq ?_
    obtain⟨r5,hr5,h⟩:=ay h
    obtain⟨r6,hr6,h⟩:=aW h
    refine rr [] [(2,.agg (qc6 r6))] [(1,⟨[(1000000,1000000)],[(1000000,1000000)],[.own 1000000 0],[(1000000,137,aH b1000000)],.str r5.1,[(1000000,137,aH r5.2)]⟩)] [2,3] [2,1000000] [(2,.own 2 0),(3,vb true)] [(2,26,qc6 r6),(1000000,137,aH r5.2)] [qp (aV Tryz.prog) 128 [.own 1000000 0] [some (137,aH b1000000)] ⟨[(1000000,1000000)],[(1000000,1000000)],[.own 1000000 0],[(1000000,137,aH b1000000)],.str r5.1,[(1000000,137,aH r5.2)]⟩,_] (aj.cons (⟨(lu n b1000000 _ hr5),by kernel_rfl,by kernel_rfl⟩) (aj.cons (c1 (qQ r5.1 _ hr6)) aj.nil)) ?_
    refine To.ah (Wp.ret (To.aR ?_))
    cases h
    exact hQ
   ·refine Wp.skip (To.aS (kt [0,2] [2,1000000] [(0,.own 1000000 0),(2,.own 2 0)] [(2,26,qc6 b2),(1000000,137,aH b1000000)] ?_))
    cases h
    exact hQ
def jq(R_flow_reader_value__o0:ak->Option (af×Bool×ak))(n:Nat)(h0:ak):Option (af×Bool×ak) :=
 (dR n h0).bind fun r1 =>
 (ji R_flow_reader_value__o0 n r1.1 (af.mk 0 [] [] []) r1.2).bind fun o2 =>
 (Sum.elim (fun o2=>(iK n o2.2).bind fun r3 =>
 (mP n r3.1 true).bind fun r4 =>
 some (r4.1,(!(r3.1==[])),(ak.mk r3.2.f_s r3.2.aC (bif r3.2.bD then true else(r4.2 != 0))))) (fun o2=>some (o2.2.1,o2.1,o2.2.2))) o2
theorem qe(R_flow_reader_value__o0:ak->Option (af×Bool×ak))(hR_flow_reader_value__o0:yv R_flow_reader_value__o0)(n:Nat)(h0:ak)(r:af×Bool×ak)(h:jq R_flow_reader_value__o0 n h0=some r):aV Tryz.prog 112 [.own 1000000 0] [(1000000,137,aH h0)] (.tup [.agg (qc6 r.1),vb r.2.1]) [(1000000,137,aH r.2.2)]:=by
 unfold jq at h
 refine bo Tryz.f112 rfl fun F0 w0=>?_
 refine Wp.seq (rg [0,2] [2,1000000] [(0,.own 1000000 0),(2,.own 2 0)] [(2,26,[vi 0,.str [],.val (.slice none 0 0),.val (.slice none 0 0)]),(1000000,137,aH h0)] (To.ah (Wp.seq (Wp.seq ?_))))
 obtain⟨r1,hr1,h⟩:=ay h
 refine rb [] 1 ⟨[(1000000,1000000)],[(1000000,1000000)],[.own 1000000 0],[(1000000,137,aH h0)],.val (.int .u8 r1.1),[(1000000,137,aH r1.2)]⟩ [0,2,8] [2,1000000] [(0,.own 1000000 0),(2,.own 2 0),(8,.val (.int .u8 r1.1))] [(2,26,[vi 0,.str [],.val (.slice none 0 0),.val (.slice none 0 0)]),(1000000,137,aH r1.2)] ((gW n h0 _ hr1)) (To.ah ?_)
 obtain⟨o2,ho2,h⟩:=ay h
 refine kw [0,2,8] [2,1000000] [(0,.own 1000000 0),(2,.own 2 0),(8,.val (.int .u8 r1.1))] [(2,26,[vi 0,.str [],.val (.slice none 0 0),.val (.slice none 0 0)]),(1000000,137,aH r1.2)] (Wp.weak (K':=[(0,.own 1000000 0),(2,.own 2 0),(8,.val (.int .u8 r1.1))]) (L':=[(2,26,[vi 0,.str [],ls [],tn4 []]),(1000000,137,aH r1.2)]) (.cons (.refl _) (.cons (.refl _) (.cons (.refl _) .nil))) (.cons (.cons (.refl _) (.cons (.refl _) (.cons (.zero _ _) (.cons (.fE _ _ _) .nil)))) (.cons (.cons (.refl _) (.cons (.refl _) (.cons (.refl _) .nil))) .nil)) (pR R_flow_reader_value__o0 hR_flow_reader_value__o0 n r1.1 zx3 r1.2 o2 ho2 ?_))
 rcases o2 with o2|o2
 ·replace h:=fZ h
  refine To.ah (Wp.seq ?_)
  obtain⟨r3,hr3,h⟩:=ay h
  refine rb [] 1 ⟨[(1000000,1000000)],[(1000000,1000000)],[.own 1000000 0],[(1000000,137,aH o2.2)],.str r3.1,[(1000000,137,aH r3.2)]⟩ [0,2,4] [2,1000000] [(0,.own 1000000 0),(2,.own 2 0),(4,.str r3.1)] [(2,26,qc6 o2.1),(1000000,137,aH r3.2)] ((lL n o2.2 _ hr3)) (To.ah (Wp.seq ?_))
  obtain⟨r4,hr4,h⟩:=ay h
  refine rc [] 1 [0,2,4,5,6] [2,5,1000000] [(0,.own 1000000 0),(2,.own 2 0),(4,.str r3.1),(5,.own 5 0),(6,vi r4.2)] [(2,26,qc6 o2.1),(5,26,qc6 r4.1),(1000000,137,aH r3.2)] (tj n r3.1 true _ hr4) (To.ah (Wp.seq (rg [2,4,5] [2,5,1000000] [(2,.own 2 0),(4,.str r3.1),(5,.own 5 0)] [(2,26,qc6 o2.1),(5,26,qc6 r4.1),(1000000,137,[.str r3.2.f_s,vi r3.2.aC,vb (bif r3.2.bD then true else(r4.2 != 0))])] (To.ah (Wp.seq (rg [2,3] [2,1000000] [(2,.own 2 0),(3,vb (!(r3.1==[])))] [(2,26,qc6 r4.1),(1000000,137,[.str r3.2.f_s,vi r3.2.aC,vb (bif r3.2.bD then true else(r4.2 != 0))])] (To.ah (Wp.ret ?_))))))))
  cases h
  exact To.dL hΓ [1000000] (by kernel_rfl) (by kernel_rfl)
 ·replace h:=gv h
  refine To.aL ?_
  cases h
  exact To.dL hΓ [1000000] (by kernel_rfl) (by kernel_rfl)
def fM:Nat->ak->Option (af×Bool×ak)
 |0=>fun _=>none
 |n+1=>jq (fM n) n
theorem qV(n:Nat):∀(h0:ak)(r:af×Bool×ak),fM n h0=some r->aV Tryz.prog 112 [.own 1000000 0] [(1000000,137,aH h0)] (.tup [.agg (qc6 r.1),vb r.2.1]) [(1000000,137,aH r.2.2)]:=by
 induction n with
 |zero=>intro h0 r h;cases h
 |succ n ih=>exact fun h0 r h=>qe (fM n) ih n h0 r h
structure aJ where
 bY:Int
def mO(n:Nat)(a0:Ls):Option ((Ls)) :=
 if(decide ((List.length ([]:Ls)+List.length a0)*(16+1)<=limit))=true then(if(decide (List.length (([]:Ls)++a0)*17<=limit))=true then(if(decide (List.length (Sh.sort (([]:Ls)++a0))*17<=limit))=true then(some (Lib.compact (Sh.sort (([]:Ls)++a0)))) else none) else none) else none
abbrev sN(x0:Ls):=(([]:Ls)++x0)
theorem zU(n:Nat)(a0:Ls)(r:(Ls))(h:mO n a0=some r):aT Tryz.prog 91 [ls a0] (ls r):=by
 unfold mO at h
 refine xo Tryz.f91 rfl fun F0 w0 _=>?_
 refine Wp.seq (rg [0] [] [(0,ls a0)] [] (To.ah (Wp.seq ?_)))
 obtain⟨hc3,h⟩:=aF h
 refine rr [] [(0,ls []),(2,ls (sN a0))] [] [3] [6] [(3,.row 6)] [(6,9,[rc1 (sN a0)])] [(dC 1 [] 0 (ls [])/\aQ (ls [])),_,(eQ [] dc ([]:Ls) (List.flatMap dc a0) (List.length a0) (ls (sN a0))/\aQ (ls (sN a0)))] (aj.cons (fL (by kernel_rfl) rfl (by kernel_rfl) (cY _)) (aj.cons hc3 (aj.cons (eG rfl rfl (cY _)) aj.nil))) (To.ah (Wp.seq ?_))
 obtain⟨u1,h⟩:=aF h
 refine rb [] 1 ⟨[(1000000,6)],[(1000000,6)],[.row 1000000],[(1000000,9,[rc1 (sN a0)])],.tup [],[(1000000,9,[rc1 (Sh.sort (sN a0))])]⟩ [3] [6] [(3,.row 6)] [(6,9,[rc1 (Sh.sort (sN a0))])] (Sh.Kv u1) (To.ah (Wp.seq ?_))
 obtain⟨u2,h⟩:=aF h
 refine rb [] 1 ⟨[(1000000,6)],[],[.row 1000000],[(1000000,9,[rc1 (Sh.sort (sN a0))])],ls (Lib.compact (Sh.sort (sN a0))),[]⟩ [2] [] [(2,ls (Lib.compact (Sh.sort (sN a0))))] [] (Sh.EX u2) (To.ah (Wp.ret ?_))
 cases h
 exact To.done hΓ (by kernel_rfl)
def gy(R_node_budget_right__o0:af->Int->aJ->Option (Bool×aJ))(n:Nat)(v2:Int)(v26:Int)(b4:af)(b1000000:aJ):Option (Sum (Unit) (Bool)) :=
 if(v26==0)=true then(bM ((bif (b4.aI==[]) then((IntKind.wrap .i64 ((List.length b4.av:Int)+(List.length b4.ai:Int)))==0) else false):Bool) fun x1 =>
 some (.inr x1))
 else(if(v26==1)=true then(some (.inr ((IntKind.wrap .i64 ((List.length b4.av:Int)+(List.length b4.ai:Int)))==0)))
 else(if(v26==2)=true then(if(bif (!(b4.aI==[])) then true else(decide ((List.length b4.av:Int)>0)))=true then(some (.inr false))
 else(some (.inl ())))
 else(if(v26==3)=true then(((if((bif (bif (!(b4.aI==[])) then true else((List.length b4.av:Int) != (List.length b4.ai:Int))) then true else(decide ((List.length b4.av:Int)>b1000000.bY)))==false)=true then mO n b4.av else some [])).bind fun r2 =>
 bM ((bif (bif (bif (!(b4.aI==[])) then true else((List.length b4.av:Int) != (List.length b4.ai:Int))) then true else(decide ((List.length b4.av:Int)>b1000000.bY))) then true else((List.length r2:Int) != (List.length b4.av:Int))):Bool) fun x3 =>
 if x3=true then(some (.inr false))
 else(some (.inl ())))
 else(some (.inr false)))))
abbrev Jl(R_node_budget_right__o0:af->Int->aJ->Option (Bool×aJ)):Prop:=∀(a1:af)(a2:Int)(h0:aJ)(r:Bool×aJ),R_node_budget_right__o0 a1 a2 h0=some r->aV Tryz.prog 58 [.own 1000000 0,.agg [vi a1.aD,.str a1.aI,ls a1.av,tn4 a1.ai],vi a2] [(1000000,87,[vi h0.bY])] (vb r.1) [(1000000,87,[vi r.2.bY])]
abbrev iR(x0:aJ):Nat×Nat×List D:=(1000000,87,[vi x0.bY])
abbrev K9(x0:af):=((IntKind.wrap .i64 ((List.length x0.av:Int)+(List.length x0.ai:Int)))==0)
theorem pP(R_node_budget_right__o0:af->Int->aJ->Option (Bool×aJ))(hR_node_budget_right__o0:Jl R_node_budget_right__o0)(n:Nat)(v2:Int)(v26:Int)(b4:af)(b1000000:aJ)(o:Sum (Unit) (Bool))(h:gy R_node_budget_right__o0 n v2 v26 b4 b1000000=some o)(hQ:(Sum.elim (fun s=>To 111 F0 w0 [(0,.own 1000000 0),(2,vi v2),(4,.own 4 0)] [(4,26,qc6 b4),(iR b1000000)] .normal Q) (fun s=>To 111 F0 w0 [(6,vb s)] [(iR b1000000)] .ret Q)) o):Wp Tryz.prog 111 F0 w0 [(0,.own 1000000 0),(2,vi v2),(4,.own 4 0),(26,vi v26)] [(4,26,qc6 b4),(iR b1000000)] (cB (cA (cB (cB (cF Tryz.f58))))) Q:=by
 unfold gy at h
 refine Wp.block (Wp.seq (rg [0,2,4,26,27] [4,1000000] [(0,.own 1000000 0),(2,vi v2),(4,.own 4 0),(26,vi v26),(27,vb (v26==0))] [(4,26,qc6 b4),(iR b1000000)] (To.ah (cn h (fun h=>?_) (fun h=>?_)))))
 ·refine Wp.seq ?_
  obtain⟨x1,hx1,h⟩:=aW h
  refine rg [6] [1000000] [(6,vb (bif (b4.aI==[]) then(K9 b4) else false))] [(iR b1000000)] (To.eq (K':=[(6,vb x1)]) (L':=[(iR b1000000)]) (by cases hx1;rfl) (by cases hx1;rfl) (To.ah (Wp.ret (To.aR (kt [6] [1000000] [(6,vb x1)] [(iR b1000000)] ?_)))))
  cases h
  exact hQ
 ·refine Wp.seq (rg [0,2,4,26,42] [4,1000000] [(0,.own 1000000 0),(2,vi v2),(4,.own 4 0),(26,vi v26),(42,vb (v26==1))] [(4,26,qc6 b4),(iR b1000000)] (To.ah (cn h (fun h=>?_) (fun h=>?_))))
  ·refine Wp.seq (rg [6] [1000000] [(6,vb (K9 b4))] [(iR b1000000)] (To.ah (Wp.ret (To.aR ?_))))
   cases h
   exact hQ
  ·refine Wp.seq (rg [0,2,4,26,52] [4,1000000] [(0,.own 1000000 0),(2,vi v2),(4,.own 4 0),(26,vi v26),(52,vb (v26==2))] [(4,26,qc6 b4),(iR b1000000)] (To.ah (cn h (fun h=>?_) (fun h=>?_))))
   ·refine Wp.seq (rg [0,2,4,62] [4,1000000] [(0,.own 1000000 0),(2,vi v2),(4,.own 4 0),(62,vb (bif (!(b4.aI==[])) then true else(decide ((List.length b4.av:Int)>0))))] [(4,26,qc6 b4),(iR b1000000)] (To.ah (cn h (fun h=>?_) (fun h=>?_))))
    ·refine Wp.seq (rg [6] [1000000] [(6,vb false)] [(iR b1000000)] (To.ah (Wp.ret (To.aR ?_))))
     cases h
     exact hQ
    ·refine Wp.skip (To.aS (kt [0,2,4] [4,1000000] [(0,.own 1000000 0),(2,vi v2),(4,.own 4 0)] [(4,26,qc6 b4),(iR b1000000)] ?_))
     cases h
     exact hQ
   ·refine Wp.seq (rg [0,2,4,63] [4,1000000] [(0,.own 1000000 0),(2,vi v2),(4,.own 4 0),(63,vb (v26==3))] [(4,26,qc6 b4),(iR b1000000)] (To.ah (cn h (fun h=>?_) (fun h=>?_))))
    ·refine Wp.seq ?_
     obtain⟨r2,hr2,h⟩:=ay h
     obtain⟨x3,hx3,h⟩:=aW h
     refine Wp.dP hm hΓ [(25,ls r2)] [0,2,4,96] [4,1000000] (K':=[(0,.own 1000000 0),(2,vi v2),(4,.own 4 0),(96,vb (bif (bif (bif (!(b4.aI==[])) then true else(ex6 b4)) then true else(decide ((List.length b4.av:Int)>b1000000.bY))) then true else((List.length r2:Int) != (List.length b4.av:Int))))]) (L':=[(4,26,qc6 b4),(iR b1000000)]) (ob:=[(((bif (bif (!(b4.aI==[])) then true else(ex6 b4)) then true else(decide ((List.length b4.av:Int)>b1000000.bY)))==false)=true->CX Tryz.prog 91 [ls b4.av] (ls r2))]) (by kernel_rfl) (aj.cons (fun hg=>cx (zU n b4.av _ (iq hg hr2))) aj.nil) (To.eq (K':=[(0,.own 1000000 0),(2,vi v2),(4,.own 4 0),(96,vb x3)]) (L':=[(4,26,qc6 b4),(iR b1000000)]) (by cases hx3;rfl) (by cases hx3;rfl) (To.ah (cn h (fun h=>?_) (fun h=>?_))))
     ·refine Wp.seq (rg [6] [1000000] [(6,vb false)] [(iR b1000000)] (To.ah (Wp.ret (To.aR ?_))))
      cases h
      exact hQ
     ·refine Wp.skip (To.aS (kt [0,2,4] [4,1000000] [(0,.own 1000000 0),(2,vi v2),(4,.own 4 0)] [(4,26,qc6 b4),(iR b1000000)] ?_))
      cases h
      exact hQ
    ·refine Wp.seq (rg [6] [1000000] [(6,vb false)] [(iR b1000000)] (To.ah (Wp.ret (To.aR ?_))))
     cases h
     exact hQ
def bn(R_node_budget_right__o0:af->Int->aJ->Option (Bool×aJ))(n:Nat)(v2:Int)(v98:List (af))(v99:Int):Nat->Int->aJ->Option (Sum (aJ) (Bool×aJ))
 |0,_,_=>none
 |k+1,v100,b1000000=>if(decide (v100<v99))=true then(if(decide (0<=v100/\v100<(List.length v98:Int)))=true then((R_node_budget_right__o0 ((v98)[Int.toNat v100]?.getD (af.mk 0 [] [] [])) (IntKind.wrap .i64 (v2+1)) b1000000).bind fun r2 =>
 if(!r2.1)=true then(some (.inr (false,r2.2)))
 else(bn R_node_budget_right__o0 n v2 v98 v99 k (IntKind.wrap .i64 (v100+1)) r2.2)) else none)
 else(some (.inl b1000000))
abbrev uz(x0:List (af))(x1:Int):=((x0)[Int.toNat x1]?.getD zx3)
theorem pV(R_node_budget_right__o0:af->Int->aJ->Option (Bool×aJ))(hR_node_budget_right__o0:Jl R_node_budget_right__o0)(n:Nat)(v2:Int)(v98:List (af))(v99:Int)(k:Nat):∀(v100:Int)(b1000000:aJ)(o:Sum (aJ) (Bool×aJ)),bn R_node_budget_right__o0 n v2 v98 v99 k v100 b1000000=some o->(Sum.elim (fun s=>To 111 F0 w0 [] [(1000000,87,[vi s.bY])] (.exit 1) Q) (fun s=>To 111 F0 w0 [(6,vb s.1)] [(1000000,87,[vi s.2.bY])] .ret Q)) o->WL Tryz.prog 111 F0 w0 [(0,.own 1000000 0),(2,vi v2),(98,cv v98),(99,vi v99),(100,vi v100)] [(iR b1000000)] (cI (cI (cB (cA (cB (cB (cB (cF Tryz.f58)))))))) Q:=by
 induction k with
 |zero=>intro v100 b1000000 o h;cases h
 |succ k ih =>
  intro v100 b1000000 o h hQ
  rw[bn] at h
  refine WL.round (Wp.seq (rg [0,2,98,99,100,101] [1000000] [(0,.own 1000000 0),(2,vi v2),(98,cv v98),(99,vi v99),(100,vi v100),(101,vb (decide (v100<v99)))] [(iR b1000000)] (To.ah (Wp.seq (cn h (fun h=>?_) (fun h=>?_))))))
  ·refine Wp.skip (To.ah (Wp.seq (Wp.block (Wp.seq ?_))))
   obtain⟨hc3,h⟩:=aF h
   refine r0 [0,2,8,98,99,100] [8,1000000] [(0,.own 1000000 0),(2,vi v2),(8,.own 8 0),(98,cv v98),(99,vi v99),(100,vi v100)] [(8,26,[vi ((uz v98 v100).aD),.str ((uz v98 v100).aI),ls ((uz v98 v100).av),tn4 ((uz v98 v100).ai)]),(iR b1000000)] (aj.cons hc3 aj.nil) (To.ah (Wp.seq ?_))
   obtain⟨r2,hr2,h⟩:=ay h
   refine rb [] 4 ⟨[(1000000,1000000)],[(1000000,1000000)],[.own 1000000 0,.agg [vi ((uz v98 v100).aD),.str ((uz v98 v100).aI),ls ((uz v98 v100).av),tn4 ((uz v98 v100).ai)],vi (IntKind.wrap .i64 (v2+1))],[(iR b1000000)],vb r2.1,[(1000000,87,[vi r2.2.bY])]⟩ [0,2,98,99,100,109] [1000000] [(0,.own 1000000 0),(2,vi v2),(98,cv v98),(99,vi v99),(100,vi v100),(109,vb (!r2.1))] [(1000000,87,[vi r2.2.bY])] ((hR_node_budget_right__o0 (uz v98 v100) (IntKind.wrap .i64 (v2+1)) b1000000 _ hr2)) (To.ah (cn h (fun h=>?_) (fun h=>?_)))
   ·refine Wp.seq (rg [6] [1000000] [(6,vb false)] [(1000000,87,[vi r2.2.bY])] (To.ah (Wp.ret (To.aR (To.aL (To.aL ?_))))))
    cases h
    exact hQ
   ·refine Wp.skip (To.aS (To.ah (rg [0,2,98,99,100] [1000000] [(0,.own 1000000 0),(2,vi v2),(98,cv v98),(99,vi v99),(100,vi (IntKind.wrap .i64 (v100+1)))] [(1000000,87,[vi r2.2.bY])] (kt [0,2,98,99,100] [1000000] [(0,.own 1000000 0),(2,vi v2),(98,cv v98),(99,vi v99),(100,vi (IntKind.wrap .i64 (v100+1)))] [(1000000,87,[vi r2.2.bY])] (To.again ?_)))))
    exact ih (IntKind.wrap .i64 (v100+1)) r2.2 _ h hQ
  ·refine Wp.exit (To.bU (To.bU (kt [] [1000000] [] [(iR b1000000)] ?_)))
   cases h
   exact hQ
def dA(R_node_budget_right__o0:af->Int->aJ->Option (Bool×aJ))(n:Nat)(a1:af)(a2:Int)(h0:aJ):Option (Bool×aJ) :=
 if(bif (decide ((IntKind.wrap .i64 (h0.bY-1))<0)) then true else(decide (a2>12)))=true then(some (false,(aJ.mk (IntKind.wrap .i64 (h0.bY-1)))))
 else((gy R_node_budget_right__o0 n a2 a1.aD a1 (aJ.mk (IntKind.wrap .i64 (h0.bY-1)))).bind fun o1 =>
 (Sum.elim (fun o1=>(bn R_node_budget_right__o0 n a2 a1.ai (List.length a1.ai:Int) n 0 (aJ.mk (IntKind.wrap .i64 (h0.bY-1)))).bind fun o2 =>
 (Sum.elim (fun o2=>some (true,o2)) (fun o2=>some (o2.1,o2.2))) o2) (fun o1=>some (o1,(aJ.mk (IntKind.wrap .i64 (h0.bY-1)))))) o1)
theorem qg(R_node_budget_right__o0:af->Int->aJ->Option (Bool×aJ))(hR_node_budget_right__o0:Jl R_node_budget_right__o0)(n:Nat)(a1:af)(a2:Int)(h0:aJ)(r:Bool×aJ)(h:dA R_node_budget_right__o0 n a1 a2 h0=some r):aV Tryz.prog 58 [.own 1000000 0,.agg (qc6 a1),vi a2] [(1000000,87,[vi h0.bY])] (vb r.1) [(1000000,87,[vi r.2.bY])]:=by
 unfold dA at h
 refine bo Tryz.f58 rfl fun F0 w0=>?_
 refine Wp.seq (rg [0,2,4] [4,1000000] [(0,.own 1000000 0),(2,vi a2),(4,.own 4 0)] [(4,26,qc6 a1),(1000000,87,[vi h0.bY])] (To.ah (Wp.seq (Wp.seq (rg [0,2,4] [4,1000000] [(0,.own 1000000 0),(2,vi a2),(4,.own 4 0)] [(4,26,qc6 a1),(1000000,87,[vi (IntKind.wrap .i64 (h0.bY-1))])] (To.ah (Wp.seq (rg [0,2,4,24] [4,1000000] [(0,.own 1000000 0),(2,vi a2),(4,.own 4 0),(24,vb (bif (decide ((IntKind.wrap .i64 (h0.bY-1))<0)) then true else(decide (a2>12))))] [(4,26,qc6 a1),(1000000,87,[vi (IntKind.wrap .i64 (h0.bY-1))])] (To.ah (cn h (fun h=>?_) (fun h=>?_)))))))))))
 ·refine Wp.seq (rg [6] [1000000] [(6,vb false)] [(1000000,87,[vi (IntKind.wrap .i64 (h0.bY-1))])] (To.ah (Wp.ret (To.aL ?_))))
  cases h
  exact To.dL hΓ [1000000] (by kernel_rfl) (by kernel_rfl)
 ·refine Wp.skip (To.ah (Wp.seq (Wp.seq (rg [0,2,4,26] [4,1000000] [(0,.own 1000000 0),(2,vi a2),(4,.own 4 0),(26,vi a1.aD)] [(4,26,qc6 a1),(1000000,87,[vi (IntKind.wrap .i64 (h0.bY-1))])] (To.ah ?_)))))
  obtain⟨o1,ho1,h⟩:=ay h
  refine kw [0,2,4,26] [4,1000000] [(0,.own 1000000 0),(2,vi a2),(4,.own 4 0),(26,vi a1.aD)] [(4,26,qc6 a1),(1000000,87,[vi (IntKind.wrap .i64 (h0.bY-1))])] (pP R_node_budget_right__o0 hR_node_budget_right__o0 n a2 a1.aD a1 (aJ.mk (IntKind.wrap .i64 (h0.bY-1))) o1 ho1 ?_)
  rcases o1 with o1|o1
  ·replace h:=fZ h
   refine To.ah (Wp.seq (Wp.seq (rg [0,2,98,99,100] [1000000] [(0,.own 1000000 0),(2,vi a2),(98,tn4 a1.ai),(99,vi (List.length a1.ai:Int)),(100,vi 0)] [(1000000,87,[vi (IntKind.wrap .i64 (h0.bY-1))])] (To.ah (Wp.block ?_)))))
   obtain⟨o2,ho2,h⟩:=ay h
   refine kw [0,2,98,99,100] [1000000] [(0,.own 1000000 0),(2,vi a2),(98,tn4 a1.ai),(99,vi (List.length a1.ai:Int)),(100,vi 0)] [(1000000,87,[vi (IntKind.wrap .i64 (h0.bY-1))])] (Wp.weak (K':=[(0,.own 1000000 0),(2,vi a2),(98,cv a1.ai),(99,vi (List.length a1.ai:Int)),(100,vi 0)]) (L':=[(1000000,87,[vi (IntKind.wrap .i64 (h0.bY-1))])]) (.cons (.refl _) (.cons (.refl _) (.cons (.opn _ _ _ _) (.cons (.refl _) (.cons (.refl _) .nil))))) (.cons (.cons (.refl _) .nil) .nil) (Wp.fP (pV R_node_budget_right__o0 hR_node_budget_right__o0 n a2 a1.ai (List.length a1.ai:Int) n 0 (aJ.mk (IntKind.wrap .i64 (h0.bY-1))) o2 ho2 ?_)))
   rcases o2 with o2|o2
   ·replace h:=fZ h
    refine To.dW (To.ah (Wp.seq (rg [6] [1000000] [(6,vb true)] [(1000000,87,[vi o2.bY])] (To.ah (Wp.ret ?_)))))
    cases h
    exact To.dL hΓ [1000000] (by kernel_rfl) (by kernel_rfl)
   ·replace h:=gv h
    refine To.aR (To.aL ?_)
    cases h
    exact To.dL hΓ [1000000] (by kernel_rfl) (by kernel_rfl)
  ·replace h:=gv h
   refine To.aL ?_
   cases h
   exact To.dL hΓ [1000000] (by kernel_rfl) (by kernel_rfl)
def bT:Nat->af->Int->aJ->Option (Bool×aJ)
 |0=>fun _ _ _=>none
 |n+1=>dA (bT n) n
theorem rH(n:Nat):∀(a1:af)(a2:Int)(h0:aJ)(r:Bool×aJ),bT n a1 a2 h0=some r->aV Tryz.prog 58 [.own 1000000 0,.agg (qc6 a1),vi a2] [(1000000,87,[vi h0.bY])] (vb r.1) [(1000000,87,[vi r.2.bY])]:=by
 induction n with
 |zero=>intro a1 a2 h0 r h;cases h
 |succ n ih=>exact fun a1 a2 h0 r h=>qg (bT n) ih n a1 a2 h0 r h
def ku(n:Nat)(a0:af):Option (Bool) :=
 (bT n a0 1 (aJ.mk 2000)).bind fun r1 =>
 some r1.1
theorem uF(n:Nat)(a0:af)(r:Bool)(h:ku n a0=some r):aT Tryz.prog 26 [.agg (qc6 a0)] (vb r):=by
 unfold ku at h
 refine xo Tryz.f26 rfl fun F0 w0 _=>?_
 refine Wp.seq (rg [1] [1] [(1,.own 1 0)] [(1,26,qc6 a0)] (To.ah (Wp.seq (rg [1,3] [1,3] [(1,.own 1 0),(3,.own 3 0)] [(1,26,qc6 a0),(3,87,[vi 2000])] (To.ah (Wp.seq ?_))))))
 obtain⟨r1,hr1,h⟩:=ay h
 refine rb [] 1 ⟨[(1000000,3)],[(1000000,3)],[.own 1000000 0,.agg (qc6 a0),vi 1],[(1000000,87,[vi 2000])],vb r1.1,[(1000000,87,[vi r1.2.bY])]⟩ [2] [] [(2,vb r1.1)] [] ((rH n a0 1 (aJ.mk 2000) _ hr1)) (To.ah (Wp.ret ?_))
 cases h
 exact To.done hΓ (by kernel_rfl)
def nV(n:Nat)(a0:Bs):Option (af×Int) :=
 (fM n (ak.mk a0 0 false)).bind fun r1 =>
 ((if(r1.2.2.bD==false)=true then dR n r1.2.2 else some (0,r1.2.2))).bind fun r2 =>
 if(bif (bif r1.2.2.bD then true else(r2.1 != 0)) then true else(decide (r2.2.aC<(List.length a0:Int))))=true then(some ((af.mk 0 [] [] []),3))
 else((ku n r1.1).bind fun r3 =>
 if(!r3)=true then(some ((af.mk 0 [] [] []),9))
 else(some (r1.1,0)))
theorem Bt(n:Nat)(a0:Bs)(r:af×Int)(h:nV n a0=some r):aT Tryz.prog 90 [.str a0] (.tup [.agg (qc6 r.1),vi r.2]):=by
 unfold nV at h
 refine xo Tryz.f90 rfl fun F0 w0 _=>?_
 refine Wp.seq (rg [0,2] [2] [(0,.str a0),(2,.own 2 0)] [(2,26,[vi 0,.str [],.val (.slice none 0 0),.val (.slice none 0 0)])] (To.ah (Wp.seq (rg [0,2,4] [2,4] [(0,.str a0),(2,.own 2 0),(4,.own 4 0)] [(2,26,[vi 0,.str [],.val (.slice none 0 0),.val (.slice none 0 0)]),(4,137,[.str a0,vi 0,vb false])] (To.ah (Wp.seq ?_))))))
 obtain⟨r1,hr1,h⟩:=ay h
 refine rb [] 0 ⟨[(1000000,4)],[(1000000,4)],[.own 1000000 0],[(1000000,137,[.str a0,vi 0,vb false])],.tup [.agg (qc6 r1.1),vb r1.2.1],[(1000000,137,aH r1.2.2)]⟩ [0,2,4,5] [2,4,5] [(0,.str a0),(2,.own 2 0),(4,.own 4 0),(5,.own 5 0)] [(2,26,[vi 0,.str [],.val (.slice none 0 0),.val (.slice none 0 0)]),(4,137,aH r1.2.2),(5,26,qc6 r1.1)] ((qV n (ak.mk a0 0 false) _ hr1)) (To.ah (Wp.seq (Wp.block (Wp.seq ?_))))
 obtain⟨r2,hr2,h⟩:=ay h
 refine rr [] [] [(3,⟨[(1000000,4)],[(1000000,4)],[.own 1000000 0],[(1000000,137,aH r1.2.2)],.val (.int .u8 r2.1),[(1000000,137,aH r2.2)]⟩)] [2,5,13] [2,5] [(2,.own 2 0),(5,.own 5 0),(13,vb (bif (bif r1.2.2.bD then true else(r2.1 != 0)) then true else(decide (r2.2.aC<(List.length a0:Int)))))] [(2,26,[vi 0,.str [],.val (.slice none 0 0),.val (.slice none 0 0)]),(5,26,qc6 r1.1)] [((r1.2.2.bD==false)=true->qp (aV Tryz.prog) 113 [.own 4 0] [some (137,aH r1.2.2)] ⟨[(1000000,4)],[(1000000,4)],[.own 1000000 0],[(1000000,137,aH r1.2.2)],.val (.int .u8 r2.1),[(1000000,137,aH r2.2)]⟩),((r1.2.2.bD==false)=false->tK [(4,137,aH r1.2.2)] ⟨[(1000000,4)],[(1000000,4)],[.own 1000000 0],[(1000000,137,aH r1.2.2)],.val (.int .u8 r2.1),[(1000000,137,aH r2.2)]⟩)] (aj.cons (fun hg=>⟨(gW n r1.2.2 _ (iq hg hr2)),by kernel_rfl,by kernel_rfl⟩) (aj.cons (fun hg=>by cases yc hg hr2;exact Ho (by kernel_rfl)) aj.nil)) ?_
 refine To.ah (cn h (fun h=>?_) (fun h=>?_))
 ·refine Wp.seq (rg [2,3] [2] [(2,.own 2 0),(3,vi 3)] [(2,26,[vi 0,.str [],.val (.slice none 0 0),.val (.slice none 0 0)])] (To.ah (Wp.ret (To.aR (To.aL (To.weak (K':=[(2,.own 2 0),(3,vi 3)]) (L':=[(2,26,[vi 0,.str [],ls [],tn4 []])]) (.cons (.refl _) (.cons (.refl _) .nil)) (.cons (.cons (.refl _) (.cons (.refl _) (.cons (.zero _ _) (.cons (.fE _ _ _) .nil)))) .nil) ?_))))))
  cases h
  exact To.done hΓ (by kernel_rfl)
 ·refine Wp.seq ?_
  obtain⟨r3,hr3,h⟩:=ay h
  refine rc [] 1 [2,5,28] [2,5] [(2,.own 2 0),(5,.own 5 0),(28,vb (!r3))] [(2,26,[vi 0,.str [],.val (.slice none 0 0),.val (.slice none 0 0)]),(5,26,qc6 r1.1)] (uF n r1.1 _ hr3) (To.ah (cn h (fun h=>?_) (fun h=>?_)))
  ·refine Wp.seq (rg [2,3] [2] [(2,.own 2 0),(3,vi 9)] [(2,26,[vi 0,.str [],.val (.slice none 0 0),.val (.slice none 0 0)])] (To.ah (Wp.ret (To.aR (To.aL (To.weak (K':=[(2,.own 2 0),(3,vi 9)]) (L':=[(2,26,[vi 0,.str [],ls [],tn4 []])]) (.cons (.refl _) (.cons (.refl _) .nil)) (.cons (.cons (.refl _) (.cons (.refl _) (.cons (.zero _ _) (.cons (.fE _ _ _) .nil)))) .nil) ?_))))))
   cases h
   exact To.done hΓ (by kernel_rfl)
  ·refine Wp.skip (To.aS (To.ah (Wp.seq (rg [2,3] [2] [(2,.own 2 0),(3,vi 0)] [(2,26,qc6 r1.1)] (To.ah (Wp.ret ?_))))))
   cases h
   exact To.done hΓ (by kernel_rfl)
def fU(n:Nat)(v1:Int)(v2:Bs)(v8:Int)(v25:Bool)(b6:af)(b7:af)(b1000000:au):Option (Int×af) :=
 if v25=true then((nV n v2).bind fun r3 =>
 some (r3.2,r3.1))
 else(some (v8,b7))
theorem oS(n:Nat)(v1:Int)(v2:Bs)(v8:Int)(v25:Bool)(b6:af)(b7:af)(b1000000:au)(o:Int×af)(h:fU n v1 v2 v8 v25 b6 b7 b1000000=some o)(hQ:To 38 F0 w0 [(0,.own 1000000 0),(1,vi v1),(6,.own 6 0),(7,.own 7 0),(8,vi o.1)] [(6,26,qc6 b6),(7,26,qc6 o.2),(dM b1000000),(fH b1000000)] .normal Q):Wp Tryz.prog 38 F0 w0 [(0,.own 1000000 0),(1,vi v1),(2,.str v2),(6,.own 6 0),(7,.own 7 0),(8,vi v8),(25,vb v25)] [(6,26,qc6 b6),(7,26,qc6 b7),(dM b1000000),(fH b1000000)] (cB (cA (cB (cB (cF Tryz.f57))))) Q:=by
 unfold fU at h
 refine cn h (fun h=>?_) (fun h=>?_)
 ·obtain⟨r3,hr3,h⟩:=ay h
  refine rc [] 1 [0,1,6,7,8] [6,7,504000,1000000] [(0,.own 1000000 0),(1,vi v1),(6,.own 6 0),(7,.own 7 0),(8,vi r3.2)] [(6,26,qc6 b6),(7,26,qc6 r3.1),(dM b1000000),(fH b1000000)] (Bt n v2 _ hr3) (kt [0,1,6,7,8] [6,7,504000,1000000] [(0,.own 1000000 0),(1,vi v1),(6,.own 6 0),(7,.own 7 0),(8,vi r3.2)] [(6,26,qc6 b6),(7,26,qc6 r3.1),(dM b1000000),(fH b1000000)] ?_)
  cases h
  exact hQ
 ·refine Wp.skip (kt [0,1,6,7,8] [6,7,504000,1000000] [(0,.own 1000000 0),(1,vi v1),(6,.own 6 0),(7,.own 7 0),(8,vi v8)] [(6,26,qc6 b6),(7,26,qc6 b7),(dM b1000000),(fH b1000000)] ?_)
  cases h
  exact hQ
def dE(n:Nat)(a1:Int)(a2:Bs)(h0:au):Option (af×au) :=
 (mP n a2 false).bind fun r1 =>
 if((!((!(a2==[]))==true)||decide (0<=(0:Int)/\(0:Int)<(List.length a2:Int))))=true then(if((!((((((a2)[Int.toNat 0]?.getD 0).toNat:Int)==91)==false)&&((!(a2==[]))==true))||decide (0<=(0:Int)/\(0:Int)<(List.length a2:Int))))=true then(bM ((bif (!(a2==[])) then(bif ((((a2)[Int.toNat 0]?.getD 0).toNat:Int)==91) then true else((((a2)[Int.toNat 0]?.getD 0).toNat:Int)==123)) else false):Bool) fun x2 =>
 (fU n a1 a2 r1.2 x2 (af.mk 0 [] [] []) r1.1 h0).bind fun o3 =>
 if(o3.1 != 0)=true then(bM (cZ a1 o3.1 h0) fun r4 =>
 some (r4.1,r4.2))
 else(some (o3.2,h0))) else none) else none
theorem lF(n:Nat)(a1:Int)(a2:Bs)(h0:au)(r:af×au)(h:dE n a1 a2 h0=some r):aV Tryz.prog 57 [.own 1000000 0,vi a1,.str a2] [(1000000,46,aM 1010000 h0),(1010000,50,[aK h0.f_l])] (.agg (qc6 r.1)) [(200,50,[aK r.2.f_l]),(1000000,46,aM 200 r.2)]:=by
 unfold dE at h
 refine bo Tryz.f57 rfl fun F0 w0=>?_
 refine nw [0,1,2] [1000000,1010000] [(1010000,504000)] [0,1,2] [504000,1000000] [(0,.own 1000000 0),(1,vi a1),(2,.str a2)] [(504000,50,[aK h0.f_l]),(1000000,46,aM 504000 h0)] (Wp.seq (rg [0,1,2,6] [6,504000,1000000] [(0,.own 1000000 0),(1,vi a1),(2,.str a2),(6,.own 6 0)] [(6,26,[vi 0,.str [],.val (.slice none 0 0),.val (.slice none 0 0)]),(504000,50,[aK h0.f_l]),(1000000,46,aM 504000 h0)] (To.ah (Wp.seq ?_))))
 obtain⟨r1,hr1,h⟩:=ay h
 refine rc [] 1 [0,1,2,6,7,8] [6,7,504000,1000000] [(0,.own 1000000 0),(1,vi a1),(2,.str a2),(6,.own 6 0),(7,.own 7 0),(8,vi r1.2)] [(6,26,[vi 0,.str [],.val (.slice none 0 0),.val (.slice none 0 0)]),(7,26,qc6 r1.1),(504000,50,[aK h0.f_l]),(1000000,46,aM 504000 h0)] (tj n a2 false _ hr1) (To.ah (Wp.seq (Wp.seq ?_)))
 obtain⟨hc5,h⟩:=aF h
 obtain⟨hc6,h⟩:=aF h
 obtain⟨x2,hx2,h⟩:=aW h
 refine r0 [0,1,2,6,7,8,25] [6,7,504000,1000000] [(0,.own 1000000 0),(1,vi a1),(2,.str a2),(6,.own 6 0),(7,.own 7 0),(8,vi r1.2),(25,vb (bif (!(a2==[])) then(bif ((lV a2)==91) then true else((lV a2)==123)) else false))] [(6,26,[vi 0,.str [],.val (.slice none 0 0),.val (.slice none 0 0)]),(7,26,qc6 r1.1),(504000,50,[aK h0.f_l]),(1000000,46,aM 504000 h0)] (aj.cons hc5 (aj.cons hc6 aj.nil)) (To.eq (K':=[(0,.own 1000000 0),(1,vi a1),(2,.str a2),(6,.own 6 0),(7,.own 7 0),(8,vi r1.2),(25,vb x2)]) (L':=[(6,26,[vi 0,.str [],.val (.slice none 0 0),.val (.slice none 0 0)]),(7,26,qc6 r1.1),(504000,50,[aK h0.f_l]),(1000000,46,aM 504000 h0)]) (by cases hx2;rfl) (by cases hx2;rfl) (To.ah ?_))
 obtain⟨o3,ho3,h⟩:=ay h
 refine kw [0,1,2,6,7,8,25] [6,7,504000,1000000] [(0,.own 1000000 0),(1,vi a1),(2,.str a2),(6,.own 6 0),(7,.own 7 0),(8,vi r1.2),(25,vb x2)] [(6,26,[vi 0,.str [],.val (.slice none 0 0),.val (.slice none 0 0)]),(7,26,qc6 r1.1),(504000,50,[aK h0.f_l]),(1000000,46,aM 504000 h0)] (Wp.weak (K':=[(0,.own 1000000 0),(1,vi a1),(2,.str a2),(6,.own 6 0),(7,.own 7 0),(8,vi r1.2),(25,vb x2)]) (L':=[(6,26,[vi 0,.str [],ls [],tn4 []]),(7,26,qc6 r1.1),(504000,50,[aK h0.f_l]),(1000000,46,aM 504000 h0)]) (.cons (.refl _) (.cons (.refl _) (.cons (.refl _) (.cons (.refl _) (.cons (.refl _) (.cons (.refl _) (.cons (.refl _) .nil))))))) (.cons (.cons (.refl _) (.cons (.refl _) (.cons (.zero _ _) (.cons (.fE _ _ _) .nil)))) (.cons (.cons (.refl _) (.cons (.refl _) (.cons (.refl _) (.cons (.refl _) .nil)))) (.cons (.cons (.refl _) .nil) (.cons (.cons (.refl _) (.cons (.refl _) (.cons (.refl _) (.cons (.refl _) .nil)))) .nil)))) (oS n a1 a2 r1.2 x2 zx3 r1.1 h0 o3 ho3 (To.ah (Wp.seq (Wp.seq (rg [0,1,6,7,8,32] [6,7,504000,1000000] [(0,.own 1000000 0),(1,vi a1),(6,.own 6 0),(7,.own 7 0),(8,vi o3.1),(32,vb (o3.1 != 0))] [(6,26,[vi 0,.str [],ls [],tn4 []]),(7,26,qc6 o3.2),(504000,50,[aK h0.f_l]),(1000000,46,aM 504000 h0)] (To.ah (cn h (fun h=>?_) (fun h=>?_)))))))))
 ·refine Wp.seq ?_
  obtain⟨r4,hr4,h⟩:=aW h
  refine rb [] 3 ⟨[(1000000,1000000),(1010000,504000)],[(200,504000),(1000000,1000000)],[.own 1000000 0,vi a1,vi o3.1],[(1000000,46,aM 1010000 h0),(1010000,50,[aK h0.f_l])],.agg (qc6 r4.1),[(200,50,[aK r4.2.f_l]),(1000000,46,aM 200 r4.2)]⟩ [6] [6,504000,1000000] [(6,.own 6 0)] [(6,26,qc6 r4.1),(504000,50,[aK r4.2.f_l]),(1000000,46,aM 504000 r4.2)] ((dN a1 o3.1 h0 _ hr4)) (To.ah (Wp.ret (To.aL (nt [6] [6,504000,1000000] [(504000,200)] [6] [6,200,1000000] [(6,.own 6 0)] [(6,26,qc6 r4.1),(200,50,[aK r4.2.f_l]),(1000000,46,aM 200 r4.2)] ?_))))
  cases h
  exact To.dL hΓ [200,1000000] (by kernel_rfl) (by kernel_rfl)
 ·refine Wp.skip (To.ah (Wp.seq (rg [6] [6,504000,1000000] [(6,.own 6 0)] [(6,26,qc6 o3.2),(504000,50,[aK h0.f_l]),(1000000,46,aM 504000 h0)] (To.ah (Wp.ret (nt [6] [6,504000,1000000] [(504000,200)] [6] [6,200,1000000] [(6,.own 6 0)] [(6,26,qc6 o3.2),(200,50,[aK h0.f_l]),(1000000,46,aM 200 h0)] ?_))))))
  cases h
  exact To.dL hΓ [200,1000000] (by kernel_rfl) (by kernel_rfl)
def dF(R_block_reader_block__o0_s2:au->Option (af×au))(n:Nat)(v1:Int)(v7:Bs)(v8:Bs)(v92:Bool)(b4:af)(b5:af)(b6:aG)(b10:af)(b1000000:au):Option (af×au) :=
 if v92=true then((dE n b6.fD v8 b1000000).bind fun r6 =>
 some (r6.1,r6.2))
 else((fQ R_block_reader_block__o0_s2 n v1 true b1000000).bind fun r7 =>
 some (r7.1,r7.2))
end Go.Proofs.YtefojkdckfidcaaGreatDoor.M
