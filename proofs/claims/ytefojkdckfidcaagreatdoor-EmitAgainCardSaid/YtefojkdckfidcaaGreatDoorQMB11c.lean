import Derived.Test.YtefojkdckfidcaaGreatDoorQMB11b
set_option linter.all false
namespace Go.Proofs.YtefojkdckfidcaaGreatDoor.M
open Go.RowKit Go.Proofs.YtefojkdckfidcaaGreatDoor.RX
set_option maxRecDepth 100000
theorem mh(n:Nat)(h0:ah)(r:Bs×ah)(h:dS n h0=some r):aY Tryz.prog 128 [.own 1000000 0] [(1000000,137,aH h0)] (.str r.1) [(1000000,137,aH r.2)]:=by
 unfold dS at h
 refine bo Tryz.f128 rfl fun F0 w0=>?_
 refine Wp.seq (rg [0] [1000000] [(0,.own 1000000 0)] [(1000000,137,aH h0)] (To.ai (Wp.seq ?_)))
 obtain⟨r1,hr1,h⟩:=aG h
 refine Wp.eQ hm hΓ [(8,.tup [.str r1.1,vi r1.2.1,vi r1.2.2])] [0,3,4,5] [1000000] (K':=[(0,.own 1000000 0),(3,.str r1.1),(4,vi r1.2.1),(5,vi r1.2.2)]) (L':=[(1000000,137,aH h0)]) (ob:=[(true=true->CX Tryz.prog 31 [.str h0.f_s,vi h0.aC] (.tup [.str r1.1,vi r1.2.1,vi r1.2.2]))]) (by kernel_rfl) (ax.cons (fun _=>cx (lK n h0.f_s h0.aC _ hr1)) ax.nil) (To.ai (Wp.seq (Wp.seq (rg [0,3,4,20] [1000000] [(0,.own 1000000 0),(3,.str r1.1),(4,vi r1.2.1),(20,vb (r1.2.2 != 0))] [(1000000,137,aH h0)] (To.ai (cn h (fun h=>?_) (fun h=>?_)))))))
 ·refine Wp.seq (rg [] [1000000] [] [(1000000,137,[.str h0.f_s,vi h0.aC,vb true])] (To.ai (Wp.seq (rg [2] [1000000] [(2,.str [])] [(1000000,137,[.str h0.f_s,vi h0.aC,vb true])] (To.ai (Wp.ret (To.aO ?_)))))))
  cases h
  exact To.ff hΓ [1000000] (by kernel_rfl) (by kernel_rfl)
 ·refine Wp.skip (To.ai (Wp.seq (rg [3] [1000000] [(3,.str r1.1)] [(1000000,137,[.str h0.f_s,vi r1.2.1,vb h0.bI])] (To.ai (Wp.seq (rg [2] [1000000] [(2,.str r1.1)] [(1000000,137,[.str h0.f_s,vi r1.2.1,vb h0.bI])] (To.ai (Wp.ret ?_))))))))
  cases h
  exact To.ff hΓ [1000000] (by kernel_rfl) (by kernel_rfl)
def eX(n:Nat)(v3:Int):Nat->ah->Option (ah)
 |0,_=>none
 |k+1,b1000000=>if(decide (b1000000.aC<(List.length b1000000.f_s:Int)))=true then(if(decide (0<=b1000000.aC/\b1000000.aC<(List.length b1000000.f_s:Int)))=true then(if((!((((IntKind.wrap .i64 (b1000000.aC+1))==(List.length b1000000.f_s:Int))==false)&&((((((b1000000.f_s)[Int.toNat b1000000.aC]?.getD 0).toNat:Int)==58)==true)&&((decide ((Lib.indexByte ([44,91,93,123,125]:Bs) (Int.toNat (((b1000000.f_s)[Int.toNat b1000000.aC]?.getD 0).toNat:Int)).toUInt8)>=0))==false)))||decide (0<=(IntKind.wrap .i64 (b1000000.aC+1))/\(IntKind.wrap .i64 (b1000000.aC+1))<(List.length b1000000.f_s:Int))))=true then(aP ((bif (decide ((Lib.indexByte ([44,91,93,123,125]:Bs) (Int.toNat (((b1000000.f_s)[Int.toNat b1000000.aC]?.getD 0).toNat:Int)).toUInt8)>=0)) then true else(bif ((((b1000000.f_s)[Int.toNat b1000000.aC]?.getD 0).toNat:Int)==58) then(bif ((IntKind.wrap .i64 (b1000000.aC+1))==(List.length b1000000.f_s:Int)) then true else(decide ((Lib.indexByte ([32,44,91,93,123,125]:Bs) (Int.toNat (((b1000000.f_s)[Int.toNat (IntKind.wrap .i64 (b1000000.aC+1))]?.getD 0).toNat:Int)).toUInt8)>=0))) else false)):Bool) fun x1 =>
 if x1=true then some b1000000
 else(eX n v3 k (ah.mk b1000000.f_s (IntKind.wrap .i64 (b1000000.aC+1)) b1000000.bI))) else none) else none)
 else some b1000000
abbrev EV(x0:ah):=(Lib.indexByte ([44,91,93,123,125]:Bs) (Int.toNat (((x0.f_s)[Int.toNat x0.aC]?.getD 0).toNat:Int)).toUInt8)
abbrev M4(x0:ah):=(Lib.indexByte ([32,44,91,93,123,125]:Bs) (Int.toNat (((x0.f_s)[Int.toNat (IntKind.wrap .i64 (x0.aC+1))]?.getD 0).toNat:Int)).toUInt8)
abbrev Gj(x0:ah):=(((x0.f_s)[Int.toNat x0.aC]?.getD 0).toNat:Int)
variable {F0:Fz} {w0:Pt Tryz.prog} {Q:Exit->Act->World->Prop}
theorem qV(n:Nat)(v3:Int)(k:Nat):∀(b1000000:ah)(o:ah),eX n v3 k b1000000=some o->To 80 F0 w0 [(0,.own 1000000 0),(3,vi v3)] [(1000000,137,aH o)] (.exit 0) Q->WL Tryz.prog 80 F0 w0 [(0,.own 1000000 0),(3,vi v3)] [(1000000,137,aH b1000000)] (cI (cI (cA (cB (cB (cF Tryz.f129)))))) Q:=by
 induction k with
 |zero=>intro b1000000 o h;cases h
 |succ k ih =>
  intro b1000000 o h hQ
  rw[eX] at h
  refine WL.round (Wp.seq (Wp.seq (Wp.eQ hm hΓ [] [0,3,18] [1000000] (K':=[(0,.own 1000000 0),(3,vi v3),(18,vb (decide (b1000000.aC<(vZ b1000000))))]) (L':=[(1000000,137,aH b1000000)]) (ob:=[]) (by kernel_rfl) ax.nil (To.ai (cn h (fun h=>?_) (fun h=>?_))))))
  ·refine Wp.skip (To.ai (Wp.seq (Wp.block (Wp.seq ?_))))
   obtain⟨hc3,h⟩:=aK h
   refine Wp.eQ hm hΓ [] [0,3,4] [1000000] (K':=[(0,.own 1000000 0),(3,vi v3),(4,.val (.int .u8 (Gj b1000000)))]) (L':=[(1000000,137,aH b1000000)]) (ob:=[(decide (0<=b1000000.aC/\b1000000.aC<(vZ b1000000)))=true]) (by kernel_rfl) (ax.cons hc3 ax.nil) (To.ai (Wp.seq ?_))
   obtain⟨hc2,h⟩:=aK h
   obtain⟨x1,hx1,h⟩:=bV h
   refine Wp.eQ hm hΓ [(1,vi (EV b1000000)),(29,vi (M4 b1000000))] [0,3,68] [1000000] (K':=[(0,.own 1000000 0),(3,vi v3),(68,vb (bif (decide ((EV b1000000)>=0)) then true else(bif ((Gj b1000000)==58) then(bif ((BZ b1000000)==(vZ b1000000)) then true else(decide ((M4 b1000000)>=0))) else false)))]) (L':=[(1000000,137,aH b1000000)]) (ob:=[(true=true->CX Tryz.prog 66 [.str [44,91,93,123,125],.val (.int .u8 (Gj b1000000))] (vi (EV b1000000))),(!((((BZ b1000000)==(vZ b1000000))==false)&&((((Gj b1000000)==58)==true)&&((decide ((EV b1000000)>=0))==false)))||decide (0<=(BZ b1000000)/\(BZ b1000000)<(vZ b1000000)))=true,(((((BZ b1000000)==(vZ b1000000))==false)&&((((Gj b1000000)==58)==true)&&((decide ((EV b1000000)>=0))==false)))=true->CX Tryz.prog 66 [.str [32,44,91,93,123,125],.val (.int .u8 (((b1000000.f_s)[Int.toNat (BZ b1000000)]?.getD 0).toNat:Int))] (vi (M4 b1000000)))]) (by kernel_rfl) (ax.cons (fun _=>cx (Sh.lN)) (ax.cons hc2 (ax.cons (fun _=>cx (Sh.lN)) ax.nil))) (To.eq (K':=[(0,.own 1000000 0),(3,vi v3),(68,vb x1)]) (L':=[(1000000,137,aH b1000000)]) (by cases hx1;rfl) (by cases hx1;rfl) (To.ai (cn h (fun h=>?_) (fun h=>?_))))
   ·refine Wp.exit (To.xB (by decide) (To.dZ (To.dZ (kt [0,3] [1000000] [(0,.own 1000000 0),(3,vi v3)] [(1000000,137,aH b1000000)] ?_))))
    cases h
    exact hQ
   ·refine Wp.skip (To.br (To.ai (rg [0,3] [1000000] [(0,.own 1000000 0),(3,vi v3)] [(zI b1000000)] (kt [0,3] [1000000] [(0,.own 1000000 0),(3,vi v3)] [(zI b1000000)] (To.again ?_)))))
    exact ih (Ks b1000000) _ h hQ
  ·refine Wp.exit (To.dZ (To.dZ (kt [0,3] [1000000] [(0,.own 1000000 0),(3,vi v3)] [(1000000,137,aH b1000000)] ?_)))
   cases h
   exact hQ
def fY(n:Nat)(h0:ah):Option (Bs×ah) :=
 (eX n h0.aC n h0).bind fun o1 =>
 if(decide (0<=o1.aC/\o1.aC<=(List.length o1.f_s:Int)))=true then(if(decide (0<=h0.aC/\h0.aC<=o1.aC))=true then(if(decide (List.length (List.take (Int.toNat o1.aC-Int.toNat h0.aC) (List.drop (Int.toNat h0.aC) o1.f_s))<4294967281))=true then(some ((Lib.trimRightB (List.take (Int.toNat o1.aC-Int.toNat h0.aC) (List.drop (Int.toNat h0.aC) o1.f_s)) 32),o1)) else none) else none) else none
theorem mV(n:Nat)(h0:ah)(r:Bs×ah)(h:fY n h0=some r):aY Tryz.prog 129 [.own 1000000 0] [(1000000,137,aH h0)] (.str r.1) [(1000000,137,aH r.2)]:=by
 unfold fY at h
 refine bo Tryz.f129 rfl fun F0 w0=>?_
 refine Wp.seq (rg [0] [1000000] [(0,.own 1000000 0)] [(1000000,137,aH h0)] (To.ai (Wp.seq (rg [0,3] [1000000] [(0,.own 1000000 0),(3,vi h0.aC)] [(1000000,137,aH h0)] (To.ai (Wp.seq (Wp.block ?_)))))))
 obtain⟨o1,ho1,h⟩:=aG h
 refine kw [0,3] [1000000] [(0,.own 1000000 0),(3,vi h0.aC)] [(1000000,137,aH h0)] (Wp.lD (qV n h0.aC n h0 o1 ho1 (To.jH (To.ai (Wp.seq ?_)))))
 obtain⟨hc3,h⟩:=aK h
 obtain⟨hc4,h⟩:=aK h
 obtain⟨u2,h⟩:=aK h
 refine Wp.eQ hm hΓ [(10,.str (Lib.trimRightB (List.take (Int.toNat o1.aC-Int.toNat h0.aC) (List.drop (Int.toNat h0.aC) o1.f_s)) 32))] [2] [1000000] (K':=[(2,.str (Lib.trimRightB (List.take (Int.toNat o1.aC-Int.toNat h0.aC) (List.drop (Int.toNat h0.aC) o1.f_s)) 32))]) (L':=[(1000000,137,aH o1)]) (ob:=[(decide (0<=o1.aC/\o1.aC<=(List.length o1.f_s:Int)))=true,(decide (0<=h0.aC/\h0.aC<=o1.aC))=true,(true=true->CX Tryz.prog 139 [.str (List.take (Int.toNat o1.aC-Int.toNat h0.aC) (List.drop (Int.toNat h0.aC) o1.f_s)),.str [32]] (.str (Lib.trimRightB (List.take (Int.toNat o1.aC-Int.toNat h0.aC) (List.drop (Int.toNat h0.aC) o1.f_s)) 32)))]) (by kernel_rfl) (ax.cons hc3 (ax.cons hc4 (ax.cons (fun _=>cx (Sh.Ef (by decide) u2)) ax.nil))) (To.ai (Wp.ret ?_))
 cases h
 exact To.ff hΓ [1000000] (by kernel_rfl) (by kernel_rfl)
def fF(n:Nat)(v12:Bool)(b1000000:ah):Option (Bs×ah) :=
 if v12=true then((dS n b1000000).bind fun r2 =>
 some (r2.1,r2.2))
 else((fY n b1000000).bind fun r3 =>
 (lg n r3.1).bind fun r4 =>
 if(!r4)=true then(some (r3.1,(ah.mk r3.2.f_s r3.2.aC true)))
 else(some (r3.1,r3.2)))
theorem rQ(n:Nat)(v12:Bool)(b1000000:ah)(o:Bs×ah)(h:fF n v12 b1000000=some o)(hQ:To 36 F0 w0 [(0,.own 1000000 0),(3,.str o.1)] [(1000000,137,aH o.2)] .normal Q):Wp Tryz.prog 36 F0 w0 [(0,.own 1000000 0),(12,vb v12)] [(1000000,137,aH b1000000)] (cB (cA (cB (cB (cF Tryz.f138))))) Q:=by
 unfold fF at h
 refine cn h (fun h=>?_) (fun h=>?_)
 ·obtain⟨r2,hr2,h⟩:=aG h
  refine rb [] 1 ⟨[(1000000,1000000)],[(1000000,1000000)],[.own 1000000 0],[(1000000,137,aH b1000000)],.str r2.1,[(1000000,137,aH r2.2)]⟩ [0,3] [1000000] [(0,.own 1000000 0),(3,.str r2.1)] [(1000000,137,aH r2.2)] ((mh n b1000000 _ hr2)) (kt [0,3] [1000000] [(0,.own 1000000 0),(3,.str r2.1)] [(1000000,137,aH r2.2)] ?_)
  cases h
  exact hQ
 ·refine Wp.seq ?_
  obtain⟨r3,hr3,h⟩:=aG h
  refine rb [] 1 ⟨[(1000000,1000000)],[(1000000,1000000)],[.own 1000000 0],[(1000000,137,aH b1000000)],.str r3.1,[(1000000,137,aH r3.2)]⟩ [0,3] [1000000] [(0,.own 1000000 0),(3,.str r3.1)] [(1000000,137,aH r3.2)] ((mV n b1000000 _ hr3)) (To.ai (Wp.seq ?_))
  obtain⟨r4,hr4,h⟩:=aG h
  refine rc [] 1 [0,3,19] [1000000] [(0,.own 1000000 0),(3,.str r3.1),(19,vb (!r4))] [(1000000,137,aH r3.2)] (tK n r3.1 _ hr4) (To.ai (cn h (fun h=>?_) (fun h=>?_)))
  ·refine rg [0,3] [1000000] [(0,.own 1000000 0),(3,.str r3.1)] [(1000000,137,[.str r3.2.f_s,vi r3.2.aC,vb true])] (kt [0,3] [1000000] [(0,.own 1000000 0),(3,.str r3.1)] [(1000000,137,[.str r3.2.f_s,vi r3.2.aC,vb true])] ?_)
   cases h
   exact hQ
  ·refine Wp.skip (kt [0,3] [1000000] [(0,.own 1000000 0),(3,.str r3.1)] [(1000000,137,aH r3.2)] ?_)
   cases h
   exact hQ
def eO(n:Nat)(h0:ah):Option (Bs×ah) :=
 (dR n h0).bind fun r1 =>
 (fF n (bif (r1.1==34) then true else(r1.1==39)) r1.2).bind fun o2 =>
 ((if(o2.2.bI==false)=true then bn n 58 o2.2 else some (false,o2.2))).bind fun r3 =>
 some (o2.1,(ah.mk r3.2.f_s r3.2.aC (bif o2.2.bI then true else(!r3.1))))
theorem nS(n:Nat)(h0:ah)(r:Bs×ah)(h:eO n h0=some r):aY Tryz.prog 138 [.own 1000000 0] [(1000000,137,aH h0)] (.str r.1) [(1000000,137,aH r.2)]:=by
 unfold eO at h
 refine bo Tryz.f138 rfl fun F0 w0=>?_
 refine Wp.seq (rg [0] [1000000] [(0,.own 1000000 0)] [(1000000,137,aH h0)] (To.ai (Wp.seq ?_)))
 obtain⟨r1,hr1,h⟩:=aG h
 refine rb [] 1 ⟨[(1000000,1000000)],[(1000000,1000000)],[.own 1000000 0],[(1000000,137,aH h0)],.val (.int .u8 r1.1),[(1000000,137,aH r1.2)]⟩ [0,4] [1000000] [(0,.own 1000000 0),(4,.val (.int .u8 r1.1))] [(1000000,137,aH r1.2)] ((jd n h0 _ hr1)) (To.ai (Wp.seq (Wp.seq (rg [0,12] [1000000] [(0,.own 1000000 0),(12,vb (bif (r1.1==34) then true else(r1.1==39)))] [(1000000,137,aH r1.2)] (To.ai ?_)))))
 obtain⟨o2,ho2,h⟩:=aG h
 refine kw [0,12] [1000000] [(0,.own 1000000 0),(12,vb (bif (r1.1==34) then true else(r1.1==39)))] [(1000000,137,aH r1.2)] (rQ n (bif (r1.1==34) then true else(r1.1==39)) r1.2 o2 ho2 (To.ai (Wp.seq ?_)))
 obtain⟨r3,hr3,h⟩:=aG h
 refine rr [] [] [(7,⟨[(1000000,1000000)],[(1000000,1000000)],[.own 1000000 0,.val (.int .u8 58)],[(1000000,137,aH o2.2)],vb r3.1,[(1000000,137,aH r3.2)]⟩)] [3] [1000000] [(3,.str o2.1)] [(1000000,137,[.str r3.2.f_s,vi r3.2.aC,vb (bif o2.2.bI then true else(!r3.1))])] [((o2.2.bI==false)=true->rK (aY Tryz.prog) 137 [.own 1000000 0,.val (.int .u8 58)] [some (137,aH o2.2)] ⟨[(1000000,1000000)],[(1000000,1000000)],[.own 1000000 0,.val (.int .u8 58)],[(1000000,137,aH o2.2)],vb r3.1,[(1000000,137,aH r3.2)]⟩),((o2.2.bI==false)=false->vk [(1000000,137,aH o2.2)] ⟨[(1000000,1000000)],[(1000000,1000000)],[.own 1000000 0,.val (.int .u8 58)],[(1000000,137,aH o2.2)],vb r3.1,[(1000000,137,aH r3.2)]⟩)] (ax.cons (fun hg=>⟨(cy n 58 o2.2 _ (jC hg hr3)),by kernel_rfl,by kernel_rfl⟩) (ax.cons (fun hg=>by cases zl hg hr3;exact KF (by kernel_rfl)) ax.nil)) ?_
 refine To.ai (Wp.seq (rg [2] [1000000] [(2,.str o2.1)] [(1000000,137,[.str r3.2.f_s,vi r3.2.aC,vb (bif o2.2.bI then true else(!r3.1))])] (To.ai (Wp.ret ?_))))
 cases h
 exact To.ff hΓ [1000000] (by kernel_rfl) (by kernel_rfl)
mutual
def bQ(R_flow_reader_value__o0:ah->Option (af×Bool×ah))(n:Nat):Nat->af->ah->Option (af×ah)
 |0,_,_=>none
 |k+1,b2,b1000000=>(bn n 125 (ah.mk b1000000.f_s (IntKind.wrap .i64 (b1000000.aC+1)) b1000000.bI)).bind fun r1 =>
 if r1.1=true then(some ((af.mk 3 [] [] []),r1.2))
 else((eO n r1.2).bind fun r2 =>
 aP ((bif r2.2.bI then true else(decide (((aU (dF ([]:List (MK×Int)) (.inl r2.1) (IntKind.wrap .i64 (((aU ([]:List (MK×Int)) (.inl r2.1)).getD 0)+1))) (.inl r2.1)).getD 0)>1))):Bool) fun x3 =>
 if x3=true then(some ((af.mk 3 [] [] []),(ah.mk r2.2.f_s r2.2.aC true)))
 else((R_flow_reader_value__o0 r2.2).bind fun r4 =>
 if(decide ((List.length ([]:Ls)+List.length ([r2.1]:Ls))*(16+1)<=limit))=true then(if(decide ((List.length ([]:List (af))+List.length ([r4.1]:List (af)))*(72+1)<=limit))=true then(if r4.2.2.bI=true then(some ((af.mk 3 [] (([]:Ls)++([r2.1]:Ls)) (([]:List (af))++([r4.1]:List (af)))),r4.2.2))
 else((bn n 44 r4.2.2).bind fun r5 =>
 if r5.1=true then(df R_flow_reader_value__o0 n k b2 (af.mk 3 [] (([]:Ls)++([r2.1]:Ls)) (([]:List (af))++([r4.1]:List (af)))) (dF ([]:List (MK×Int)) (.inl r2.1) (IntKind.wrap .i64 (((aU ([]:List (MK×Int)) (.inl r2.1)).getD 0)+1))) r5.2)
 else((bn n 125 r5.2).bind fun r6 =>
 some ((af.mk 3 [] (([]:Ls)++([r2.1]:Ls)) (([]:List (af))++([r4.1]:List (af)))),(ah.mk r6.2.f_s r6.2.aC (!r6.1)))))) else none) else none))
def df(R_flow_reader_value__o0:ah->Option (af×Bool×ah))(n:Nat):Nat->af->af->(List (MK×Int))->ah->Option (af×ah)
 |0,_,_,_,_=>none
 |k+1,b2,b3,b9,b1000000=>(eO n b1000000).bind fun r1 =>
 aP ((bif r1.2.bI then true else(decide (((aU (dF b9 (.inl r1.1) (IntKind.wrap .i64 (((aU b9 (.inl r1.1)).getD 0)+1))) (.inl r1.1)).getD 0)>1))):Bool) fun x2 =>
 if x2=true then(some (b3,(ah.mk r1.2.f_s r1.2.aC true)))
 else((R_flow_reader_value__o0 r1.2).bind fun r3 =>
 if(decide ((List.length b3.aA+List.length ([r1.1]:Ls))*(16+1)<=limit))=true then(if(decide ((List.length b3.aj+List.length ([r3.1]:List (af)))*(72+1)<=limit))=true then(if r3.2.2.bI=true then(some ((af.mk b3.aF b3.au (b3.aA++([r1.1]:Ls)) (b3.aj++([r3.1]:List (af)))),r3.2.2))
 else((bn n 44 r3.2.2).bind fun r4 =>
 if r4.1=true then(df R_flow_reader_value__o0 n k b2 (af.mk b3.aF b3.au (b3.aA++([r1.1]:Ls)) (b3.aj++([r3.1]:List (af)))) (dF b9 (.inl r1.1) (IntKind.wrap .i64 (((aU b9 (.inl r1.1)).getD 0)+1))) r4.2)
 else((bn n 125 r4.2).bind fun r5 =>
 some ((af.mk b3.aF b3.au (b3.aA++([r1.1]:Ls)) (b3.aj++([r3.1]:List (af)))),(ah.mk r5.2.f_s r5.2.aC (!r5.1)))))) else none) else none)
end
abbrev dO(l:Ls):D:=.aN false (α:=Bs) [] gw l
abbrev gJ(l:List (MK×Int)):D:=.fL none false (α:=Int) 0 uo l
abbrev dQ(k0:Nat)(k1:Nat)(x:af):List D:=[vi x.aF,.str x.au,.row k0,.row k1]
theorem rm(R_flow_reader_value__o0:ah->Option (af×Bool×ah))(hR_flow_reader_value__o0:zZ R_flow_reader_value__o0)(n:Nat)(k:Nat):(∀(b2:af)(b1000000:ah)(o:af×ah),bQ R_flow_reader_value__o0 n k b2 b1000000=some o->To 71 F0 w0 [(2,.own 2 0)] [(2,26,dQ 4122 4123 o.1),(4122,9,[dO o.1.aA]),(4123,26,[aQ o.1.aj]),(1000000,137,aH o.2)] .ret Q->WG Tryz.prog 71 F0 w0 [(0,.own 1000000 0),(2,.own 2 0)] [(2,26,qc9 b2),(1000000,137,aH b1000000)] (cI (cB (cF Tryz.f127))) (cI (cB (cF Tryz.f127))) Q) /\
 (∀(b2:af)(b3:af)(b9:List (MK×Int))(b1000000:ah)(o:af×ah),df R_flow_reader_value__o0 n k b2 b3 b9 b1000000=some o->To 71 F0 w0 [(2,.own 2 0)] [(2,26,dQ 4122 4123 o.1),(4122,9,[dO o.1.aA]),(4123,26,[aQ o.1.aj]),(1000000,137,aH o.2)] .ret Q->WG Tryz.prog 71 F0 w0 [(0,.own 1000000 0),(2,.own 2 0),(3,.own 3 0),(4,.mp 9)] [(2,26,qc9 b2),(3,26,dQ 4182 4183 b3),(9,156,[gJ b9]),(4182,9,[dO b3.aA]),(4183,26,[aQ b3.aj]),(1000000,137,aH b1000000)] (cI (cB (cF Tryz.f127))) (cG 0 (cB (cF Tryz.f127))) Q):=by
 induction k with
 |zero=>exact⟨(by intro b2 b1000000 o h;cases h),(by intro b2 b3 b9 b1000000 o h;cases h)⟩
 |succ k ih =>
  refine⟨?_,?_⟩
  ·intro b2 b1000000 o h hQ
   rw[bQ] at h
   refine WG.pass (Wp.seq (rg [0,2,3] [2,3,1000000] [(0,.own 1000000 0),(2,.own 2 0),(3,.own 3 0)] [(2,26,qc9 b2),(3,26,[vi 3,.str [],.val (.slice none 0 0),.val (.slice none 0 0)]),(1000000,137,aH b1000000)] (To.ai (Wp.seq (rr [] [(0,gJ [])] [] [0,2,3,4] [2,3,9,1000000] [(0,.own 1000000 0),(2,.own 2 0),(3,.own 3 0),(4,.mp 9)] [(2,26,qc9 b2),(3,26,[vi 3,.str [],.val (.slice none 0 0),.val (.slice none 0 0)]),(9,156,[gJ []]),(1000000,137,aH b1000000)] [(yP false uo)] (ax.cons (⟨fun _=>rfl,fun _ _=>rfl⟩) ax.nil) ?_)))))
   refine To.ai (Wp.seq (rg [0,2,3,4] [2,3,9,1000000] [(0,.own 1000000 0),(2,.own 2 0),(3,.own 3 0),(4,.mp 9)] [(2,26,qc9 b2),(3,26,[vi 3,.str [],.val (.slice none 0 0),.val (.slice none 0 0)]),(9,156,[gJ []]),(zI b1000000)] (To.ai (Wp.seq (Wp.seq ?_)))))
   obtain⟨r1,hr1,h⟩:=aG h
   refine rb [] 1 ⟨[(1000000,1000000)],[(1000000,1000000)],[.own 1000000 0,.val (.int .u8 125)],[(zI b1000000)],vb r1.1,[(1000000,137,aH r1.2)]⟩ [0,2,3,4,18] [2,3,9,1000000] [(0,.own 1000000 0),(2,.own 2 0),(3,.own 3 0),(4,.mp 9),(18,vb r1.1)] [(2,26,qc9 b2),(3,26,[vi 3,.str [],.val (.slice none 0 0),.val (.slice none 0 0)]),(9,156,[gJ []]),(1000000,137,aH r1.2)] ((cy n 125 (Ks b1000000) _ hr1)) (To.ai (cn h (fun h=>?_) (fun h=>?_)))
   ·refine Wp.seq (rg [2] [2,1000000] [(2,.own 2 0)] [(2,26,[vi 3,.str [],.val (.slice none 0 0),.val (.slice none 0 0)]),(1000000,137,aH r1.2)] (To.ai (Wp.ret (To.aO (To.kF (.inr (.inl rfl)) (kt [2] [2,1000000] [(2,.own 2 0)] [(2,26,[vi 3,.str [],.val (.slice none 0 0),.val (.slice none 0 0)]),(1000000,137,aH r1.2)] (To.pre (St.nF 2 2 4122 9 (fC _) (by decide) (by kernel_rfl) (L':=[(2,26,[vi 3,.str [],.row 4122,.val (.slice none 0 0)]),(1000000,137,aH r1.2)]) (by kernel_rfl)) (kt [2] [2,4122,1000000] [(2,.own 2 0)] [(2,26,[vi 3,.str [],.row 4122,.val (.slice none 0 0)]),(4122,9,[dO []]),(1000000,137,aH r1.2)] (To.pre (St.nF 2 3 4123 26 (bP _) (by decide) (by kernel_rfl) (L':=[(2,26,[vi 3,.str [],.row 4122,.row 4123]),(4122,9,[dO []]),(1000000,137,aH r1.2)]) (by kernel_rfl)) (kt [2] [2,4122,4123,1000000] [(2,.own 2 0)] [(2,26,[vi 3,.str [],.row 4122,.row 4123]),(4122,9,[dO []]),(4123,26,[aQ []]),(1000000,137,aH r1.2)] ?_))))))))))
    cases h
    exact hQ
   ·refine Wp.skip (To.ai (Wp.seq (kw [0,2,3,4,18] [2,3,9,1000000] [(0,.own 1000000 0),(2,.own 2 0),(3,.own 3 0),(4,.mp 9),(18,vb r1.1)] [(2,26,qc9 b2),(3,26,[vi 3,.str [],.val (.slice none 0 0),.val (.slice none 0 0)]),(9,156,[gJ []]),(1000000,137,aH r1.2)] (Wp.pre (St.nF 3 2 4182 9 (fC _) (by decide) (by kernel_rfl) (L':=[(2,26,qc9 b2),(3,26,[vi 3,.str [],.row 4182,.val (.slice none 0 0)]),(9,156,[gJ []]),(1000000,137,aH r1.2)]) (by kernel_rfl)) (kw [0,2,3,4,18] [2,3,9,4182,1000000] [(0,.own 1000000 0),(2,.own 2 0),(3,.own 3 0),(4,.mp 9),(18,vb r1.1)] [(2,26,qc9 b2),(3,26,[vi 3,.str [],.row 4182,.val (.slice none 0 0)]),(9,156,[gJ []]),(4182,9,[dO []]),(1000000,137,aH r1.2)] (Wp.pre (St.nF 3 3 4183 26 (bP _) (by decide) (by kernel_rfl) (L':=[(2,26,qc9 b2),(3,26,[vi 3,.str [],.row 4182,.row 4183]),(9,156,[gJ []]),(4182,9,[dO []]),(1000000,137,aH r1.2)]) (by kernel_rfl)) (kw [0,2,3,4,18] [2,3,9,4182,4183,1000000] [(0,.own 1000000 0),(2,.own 2 0),(3,.own 3 0),(4,.mp 9),(18,vb r1.1)] [(2,26,qc9 b2),(3,26,[vi 3,.str [],.row 4182,.row 4183]),(9,156,[gJ []]),(4182,9,[dO []]),(4183,26,[aQ []]),(1000000,137,aH r1.2)] (Wp.label (To.ai (Wp.seq ?_))))))))))
    obtain⟨r2,hr2,h⟩:=aG h
    refine rb [] 1 ⟨[(1000000,1000000)],[(1000000,1000000)],[.own 1000000 0],[(1000000,137,aH r1.2)],.str r2.1,[(1000000,137,aH r2.2)]⟩ [0,2,3,4,5] [2,3,9,4182,4183,1000000] [(0,.own 1000000 0),(2,.own 2 0),(3,.own 3 0),(4,.mp 9),(5,.str r2.1)] [(2,26,qc9 b2),(3,26,[vi 3,.str [],.row 4182,.row 4183]),(9,156,[gJ []]),(4182,9,[dO []]),(4183,26,[aQ []]),(1000000,137,aH r2.2)] ((nS n r1.2 _ hr2)) (To.ai (Wp.seq (Wp.seq (rr [] [(2,vi ((aU ([]:List (MK×Int)) (.inl r2.1)).getD 0)),(4,gJ (dF ([]:List (MK×Int)) (.inl r2.1) (IntKind.wrap .i64 (((aU ([]:List (MK×Int)) (.inl r2.1)).getD 0)+1))))] [] [0,2,3,4,5] [2,3,9,4182,4183,1000000] [(0,.own 1000000 0),(2,.own 2 0),(3,.own 3 0),(4,.mp 9),(5,.str r2.1)] [(2,26,qc9 b2),(3,26,[vi 3,.str [],.row 4182,.row 4183]),(9,156,[gJ (dF ([]:List (MK×Int)) (.inl r2.1) (IntKind.wrap .i64 (((aU ([]:List (MK×Int)) (.inl r2.1)).getD 0)+1)))]),(4182,9,[dO []]),(4183,26,[aQ []]),(1000000,137,aH r2.2)] [(true=true->ua false uo ([]:List (MK×Int)) (.inl r2.1) [vi 0] (vi ((aU ([]:List (MK×Int)) (.inl r2.1)).getD 0))),(∃l':List (MK×Int),(gJ (dF ([]:List (MK×Int)) (.inl r2.1) (IntKind.wrap .i64 (((aU ([]:List (MK×Int)) (.inl r2.1)).getD 0)+1))):D)=gJ l'/\As uo ([]:List (MK×Int)) (.inl r2.1) [vi (IntKind.wrap .i64 (((aU ([]:List (MK×Int)) (.inl r2.1)).getD 0)+1))] l')] (ax.cons (fun _=>⟨0,bE.of_eq (by kernel_rfl),by kernel_rfl⟩) (ax.cons (⟨_,rfl,(IntKind.wrap .i64 (((aU ([]:List (MK×Int)) (.inl r2.1)).getD 0)+1)),bE.of_eq (by kernel_rfl),rfl⟩) ax.nil)) ?_))))
    refine To.ai (Wp.seq ?_)
    obtain⟨x3,hx3,h⟩:=bV h
    refine rr [] [(7,vi ((aU (dF ([]:List (MK×Int)) (.inl r2.1) (IntKind.wrap .i64 (((aU ([]:List (MK×Int)) (.inl r2.1)).getD 0)+1))) (.inl r2.1)).getD 0))] [] [0,2,3,4,5,35] [2,3,9,4182,4183,1000000] [(0,.own 1000000 0),(2,.own 2 0),(3,.own 3 0),(4,.mp 9),(5,.str r2.1),(35,vb (bif r2.2.bI then true else(decide (((aU (dF ([]:List (MK×Int)) (.inl r2.1) (IntKind.wrap .i64 (((aU ([]:List (MK×Int)) (.inl r2.1)).getD 0)+1))) (.inl r2.1)).getD 0)>1))))] [(2,26,qc9 b2),(3,26,[vi 3,.str [],.row 4182,.row 4183]),(9,156,[gJ (dF ([]:List (MK×Int)) (.inl r2.1) (IntKind.wrap .i64 (((aU ([]:List (MK×Int)) (.inl r2.1)).getD 0)+1)))]),(4182,9,[dO []]),(4183,26,[aQ []]),(1000000,137,aH r2.2)] [((r2.2.bI==false)=true->ua false uo (dF ([]:List (MK×Int)) (.inl r2.1) (IntKind.wrap .i64 (((aU ([]:List (MK×Int)) (.inl r2.1)).getD 0)+1))) (.inl r2.1) [vi 0] (vi ((aU (dF ([]:List (MK×Int)) (.inl r2.1) (IntKind.wrap .i64 (((aU ([]:List (MK×Int)) (.inl r2.1)).getD 0)+1))) (.inl r2.1)).getD 0)))] (ax.cons (fun _=>⟨0,bE.of_eq (by kernel_rfl),by kernel_rfl⟩) ax.nil) ?_
    refine To.eq (K':=[(0,.own 1000000 0),(2,.own 2 0),(3,.own 3 0),(4,.mp 9),(5,.str r2.1),(35,vb x3)]) (L':=[(2,26,qc9 b2),(3,26,[vi 3,.str [],.row 4182,.row 4183]),(9,156,[gJ (dF ([]:List (MK×Int)) (.inl r2.1) (IntKind.wrap .i64 (((aU ([]:List (MK×Int)) (.inl r2.1)).getD 0)+1)))]),(4182,9,[dO []]),(4183,26,[aQ []]),(1000000,137,aH r2.2)]) (by cases hx3;rfl) (by cases hx3;rfl) (To.ai (cn h (fun h=>?_) (fun h=>?_)))
    ·refine Wp.seq (rg [2,3] [2,3,4182,4183,1000000] [(2,.own 2 0),(3,.own 3 0)] [(2,26,qc9 b2),(3,26,[vi 3,.str [],.row 4182,.row 4183]),(4182,9,[dO []]),(4183,26,[aQ []]),(1000000,137,[.str r2.2.f_s,vi r2.2.aC,vb true])] (To.ai (Wp.seq (rg [2] [2,4182,4183,1000000] [(2,.own 2 0)] [(2,26,[vi 3,.str [],.row 4182,.row 4183]),(4182,9,[dO []]),(4183,26,[aQ []]),(1000000,137,[.str r2.2.f_s,vi r2.2.aC,vb true])] (To.ai (Wp.ret (To.aO (To.kF (.inr (.inl rfl)) (nt [2] [2,4182,4183,1000000] [(4182,4122),(4183,4123)] [2] [2,4122,4123,1000000] [(2,.own 2 0)] [(2,26,[vi 3,.str [],.row 4122,.row 4123]),(4122,9,[dO []]),(4123,26,[aQ []]),(1000000,137,[.str r2.2.f_s,vi r2.2.aC,vb true])] ?_)))))))))
     cases h
     exact hQ
    ·refine Wp.skip (To.ai (Wp.seq ?_))
     obtain⟨r4,hr4,h⟩:=aG h
     refine rb [] 1 ⟨[(1000000,1000000)],[(1000000,1000000)],[.own 1000000 0],[(1000000,137,aH r2.2)],.tup [.agg (qc9 r4.1),vb r4.2.1],[(1000000,137,aH r4.2.2)]⟩ [0,2,3,4,5,6] [2,3,6,9,4182,4183,1000000] [(0,.own 1000000 0),(2,.own 2 0),(3,.own 3 0),(4,.mp 9),(5,.str r2.1),(6,.own 6 0)] [(2,26,qc9 b2),(3,26,[vi 3,.str [],.row 4182,.row 4183]),(6,26,qc9 r4.1),(9,156,[gJ (dF ([]:List (MK×Int)) (.inl r2.1) (IntKind.wrap .i64 (((aU ([]:List (MK×Int)) (.inl r2.1)).getD 0)+1)))]),(4182,9,[dO []]),(4183,26,[aQ []]),(1000000,137,aH r4.2.2)] ((hR_flow_reader_value__o0 r2.2 _ hr4)) (To.ai (Wp.seq ?_))
     obtain⟨hc7,h⟩:=aK h
     obtain⟨hc8,h⟩:=aK h
     refine Wp.sG hm hΓ [] [(3,ls [r2.1]),(4,ls (([]:Ls)++([r2.1]:Ls))),(8,dP [r4.1]),(9,dP (([]:List (af))++([r4.1]:List (af))))] [] [0,2,3,4,5,6,45,46,47,48,49,50,51,52,53,54,55,56] [2,3,6,9,48,49,53,54,4182,4183,1000000] [0,2,3,4] [2,3,9,49,54,1000000] (K':=[(0,.own 1000000 0),(2,.own 2 0),(3,.own 3 0),(4,.mp 9)]) (L':=[(2,26,qc9 b2),(3,26,[vi 3,.str [],.row 49,.row 54]),(9,156,[gJ (dF ([]:List (MK×Int)) (.inl r2.1) (IntKind.wrap .i64 (((aU ([]:List (MK×Int)) (.inl r2.1)).getD 0)+1)))]),(49,9,[dO (([]:Ls)++([r2.1]:Ls))]),(54,26,[aQ (([]:List (af))++([r4.1]:List (af)))]),(1000000,137,aH r4.2.2)]) (ob:=[(fV 1 [.str r2.1] 1 (ls [r2.1])/\aV (ls [r2.1])),(decide ((List.length ([]:Ls)+List.length ([r2.1]:Ls))*(16+1)<=limit))=true,(i7 [] gw ([]:Ls) (List.flatMap gw ([r2.1]:Ls)) (List.length ([r2.1]:Ls)) (ls (([]:Ls)++([r2.1]:Ls)))/\aV (ls (([]:Ls)++([r2.1]:Ls)))),(fV 4 (qc9 r4.1) 1 (dP [r4.1])/\aV (dP [r4.1])),(decide ((List.length ([]:List (af))+List.length ([r4.1]:List (af)))*(72+1)<=limit))=true,(i7 zx7 dU ([]:List (af)) (List.flatMap dU ([r4.1]:List (af))) (List.length ([r4.1]:List (af))) (dP (([]:List (af))++([r4.1]:List (af))))/\aV (dP (([]:List (af))++([r4.1]:List (af)))))]) (by kernel_rfl) (by kernel_rfl) (ax.cons (jY (by kernel_rfl) rfl (by kernel_rfl) (fC _)) (ax.cons hc7 (ax.cons (ja rfl rfl (fC _)) (ax.cons (jY (by kernel_rfl) rfl (by kernel_rfl) (bP _)) (ax.cons hc8 (ax.cons (ja rfl rfl (bP _)) ax.nil)))))) (To.ai (Wp.seq (Wp.seq (rg [0,2,3,4,60] [2,3,9,49,54,1000000] [(0,.own 1000000 0),(2,.own 2 0),(3,.own 3 0),(4,.mp 9),(60,vb r4.2.2.bI)] [(2,26,qc9 b2),(3,26,[vi 3,.str [],.row 49,.row 54]),(9,156,[gJ (dF ([]:List (MK×Int)) (.inl r2.1) (IntKind.wrap .i64 (((aU ([]:List (MK×Int)) (.inl r2.1)).getD 0)+1)))]),(49,9,[dO (([]:Ls)++([r2.1]:Ls))]),(54,26,[aQ (([]:List (af))++([r4.1]:List (af)))]),(1000000,137,aH r4.2.2)] (To.ai (cn h (fun h=>?_) (fun h=>?_)))))))
     ·refine Wp.seq (rg [2] [2,49,54,1000000] [(2,.own 2 0)] [(2,26,[vi 3,.str [],.row 49,.row 54]),(49,9,[dO (([]:Ls)++([r2.1]:Ls))]),(54,26,[aQ (([]:List (af))++([r4.1]:List (af)))]),(1000000,137,aH r4.2.2)] (To.ai (Wp.ret (To.aO (To.kF (.inr (.inl rfl)) (nt [2] [2,49,54,1000000] [(49,4122),(54,4123)] [2] [2,4122,4123,1000000] [(2,.own 2 0)] [(2,26,[vi 3,.str [],.row 4122,.row 4123]),(4122,9,[dO (([]:Ls)++([r2.1]:Ls))]),(4123,26,[aQ (([]:List (af))++([r4.1]:List (af)))]),(1000000,137,aH r4.2.2)] ?_))))))
      cases h
      exact hQ
     ·refine Wp.skip (To.ai (Wp.seq (Wp.seq ?_)))
      obtain⟨r5,hr5,h⟩:=aG h
      refine rb [] 1 ⟨[(1000000,1000000)],[(1000000,1000000)],[.own 1000000 0,.val (.int .u8 44)],[(1000000,137,aH r4.2.2)],vb r5.1,[(1000000,137,aH r5.2)]⟩ [0,2,3,4,63] [2,3,9,49,54,1000000] [(0,.own 1000000 0),(2,.own 2 0),(3,.own 3 0),(4,.mp 9),(63,vb r5.1)] [(2,26,qc9 b2),(3,26,[vi 3,.str [],.row 49,.row 54]),(9,156,[gJ (dF ([]:List (MK×Int)) (.inl r2.1) (IntKind.wrap .i64 (((aU ([]:List (MK×Int)) (.inl r2.1)).getD 0)+1)))]),(49,9,[dO (([]:Ls)++([r2.1]:Ls))]),(54,26,[aQ (([]:List (af))++([r4.1]:List (af)))]),(1000000,137,aH r5.2)] ((cy n 44 r4.2.2 _ hr5)) (To.ai (cn h (fun h=>?_) (fun h=>?_)))
      ·refine Wp.goto (To.yz (nt [0,2,3,4] [2,3,9,49,54,1000000] [(49,4182),(54,4183)] [0,2,3,4] [2,3,9,4182,4183,1000000] [(0,.own 1000000 0),(2,.own 2 0),(3,.own 3 0),(4,.mp 9)] [(2,26,qc9 b2),(3,26,[vi 3,.str [],.row 4182,.row 4183]),(9,156,[gJ (dF ([]:List (MK×Int)) (.inl r2.1) (IntKind.wrap .i64 (((aU ([]:List (MK×Int)) (.inl r2.1)).getD 0)+1)))]),(4182,9,[dO (([]:Ls)++([r2.1]:Ls))]),(4183,26,[aQ (([]:List (af))++([r4.1]:List (af)))]),(1000000,137,aH r5.2)] (To.goto (rest:=cG 0 (cB (cF Tryz.f127))) (by kernel_rfl) ?_)))
       exact ih.2 b2 (af.mk 3 [] (([]:Ls)++([r2.1]:Ls)) (([]:List (af))++([r4.1]:List (af)))) (dF ([]:List (MK×Int)) (.inl r2.1) (IntKind.wrap .i64 (((aU ([]:List (MK×Int)) (.inl r2.1)).getD 0)+1))) r5.2 _ h hQ
      ·refine Wp.skip (To.ai (Wp.seq ?_))
       obtain⟨r6,hr6,h⟩:=aG h
       refine rb [] 2 ⟨[(1000000,1000000)],[(1000000,1000000)],[.own 1000000 0,.val (.int .u8 125)],[(1000000,137,aH r5.2)],vb r6.1,[(1000000,137,aH r6.2)]⟩ [2,3] [2,3,49,54,1000000] [(2,.own 2 0),(3,.own 3 0)] [(2,26,qc9 b2),(3,26,[vi 3,.str [],.row 49,.row 54]),(49,9,[dO (([]:Ls)++([r2.1]:Ls))]),(54,26,[aQ (([]:List (af))++([r4.1]:List (af)))]),(1000000,137,[.str r6.2.f_s,vi r6.2.aC,vb (!r6.1)])] ((cy n 125 r5.2 _ hr6)) (To.ai (Wp.seq (rg [2] [2,49,54,1000000] [(2,.own 2 0)] [(2,26,[vi 3,.str [],.row 49,.row 54]),(49,9,[dO (([]:Ls)++([r2.1]:Ls))]),(54,26,[aQ (([]:List (af))++([r4.1]:List (af)))]),(1000000,137,[.str r6.2.f_s,vi r6.2.aC,vb (!r6.1)])] (To.ai (Wp.ret (To.kF (.inr (.inl rfl)) (nt [2] [2,49,54,1000000] [(49,4122),(54,4123)] [2] [2,4122,4123,1000000] [(2,.own 2 0)] [(2,26,[vi 3,.str [],.row 4122,.row 4123]),(4122,9,[dO (([]:Ls)++([r2.1]:Ls))]),(4123,26,[aQ (([]:List (af))++([r4.1]:List (af)))]),(1000000,137,[.str r6.2.f_s,vi r6.2.aC,vb (!r6.1)])] ?_)))))))
       cases h
       exact hQ
  ·intro b2 b3 b9 b1000000 o h hQ
   rw[df] at h
   refine WG.pass (Wp.seq (Wp.skip (To.ai (Wp.seq ?_))))
   obtain⟨r1,hr1,h⟩:=aG h
   refine rb [] 1 ⟨[(1000000,1000000)],[(1000000,1000000)],[.own 1000000 0],[(1000000,137,aH b1000000)],.str r1.1,[(1000000,137,aH r1.2)]⟩ [0,2,3,4,5] [2,3,9,4182,4183,1000000] [(0,.own 1000000 0),(2,.own 2 0),(3,.own 3 0),(4,.mp 9),(5,.str r1.1)] [(2,26,qc9 b2),(3,26,dQ 4182 4183 b3),(9,156,[gJ b9]),(4182,9,[dO b3.aA]),(4183,26,[aQ b3.aj]),(1000000,137,aH r1.2)] ((nS n b1000000 _ hr1)) (To.ai (Wp.seq (Wp.seq (rr [] [(2,vi ((aU b9 (.inl r1.1)).getD 0)),(4,gJ (dF b9 (.inl r1.1) (IntKind.wrap .i64 (((aU b9 (.inl r1.1)).getD 0)+1))))] [] [0,2,3,4,5] [2,3,9,4182,4183,1000000] [(0,.own 1000000 0),(2,.own 2 0),(3,.own 3 0),(4,.mp 9),(5,.str r1.1)] [(2,26,qc9 b2),(3,26,dQ 4182 4183 b3),(9,156,[gJ (dF b9 (.inl r1.1) (IntKind.wrap .i64 (((aU b9 (.inl r1.1)).getD 0)+1)))]),(4182,9,[dO b3.aA]),(4183,26,[aQ b3.aj]),(1000000,137,aH r1.2)] [(true=true->ua false uo b9 (.inl r1.1) [vi 0] (vi ((aU b9 (.inl r1.1)).getD 0))),(∃l':List (MK×Int),(gJ (dF b9 (.inl r1.1) (IntKind.wrap .i64 (((aU b9 (.inl r1.1)).getD 0)+1))):D)=gJ l'/\As uo b9 (.inl r1.1) [vi (IntKind.wrap .i64 (((aU b9 (.inl r1.1)).getD 0)+1))] l')] (ax.cons (fun _=>⟨0,bE.of_eq (by kernel_rfl),by kernel_rfl⟩) (ax.cons (⟨_,rfl,(IntKind.wrap .i64 (((aU b9 (.inl r1.1)).getD 0)+1)),bE.of_eq (by kernel_rfl),rfl⟩) ax.nil)) ?_))))
   refine To.ai (Wp.seq ?_)
   obtain⟨x2,hx2,h⟩:=bV h
   refine rr [] [(7,vi ((aU (dF b9 (.inl r1.1) (IntKind.wrap .i64 (((aU b9 (.inl r1.1)).getD 0)+1))) (.inl r1.1)).getD 0))] [] [0,2,3,4,5,35] [2,3,9,4182,4183,1000000] [(0,.own 1000000 0),(2,.own 2 0),(3,.own 3 0),(4,.mp 9),(5,.str r1.1),(35,vb (bif r1.2.bI then true else(decide (((aU (dF b9 (.inl r1.1) (IntKind.wrap .i64 (((aU b9 (.inl r1.1)).getD 0)+1))) (.inl r1.1)).getD 0)>1))))] [(2,26,qc9 b2),(3,26,dQ 4182 4183 b3),(9,156,[gJ (dF b9 (.inl r1.1) (IntKind.wrap .i64 (((aU b9 (.inl r1.1)).getD 0)+1)))]),(4182,9,[dO b3.aA]),(4183,26,[aQ b3.aj]),(1000000,137,aH r1.2)] [((r1.2.bI==false)=true->ua false uo (dF b9 (.inl r1.1) (IntKind.wrap .i64 (((aU b9 (.inl r1.1)).getD 0)+1))) (.inl r1.1) [vi 0] (vi ((aU (dF b9 (.inl r1.1) (IntKind.wrap .i64 (((aU b9 (.inl r1.1)).getD 0)+1))) (.inl r1.1)).getD 0)))] (ax.cons (fun _=>⟨0,bE.of_eq (by kernel_rfl),by kernel_rfl⟩) ax.nil) ?_
   refine To.eq (K':=[(0,.own 1000000 0),(2,.own 2 0),(3,.own 3 0),(4,.mp 9),(5,.str r1.1),(35,vb x2)]) (L':=[(2,26,qc9 b2),(3,26,dQ 4182 4183 b3),(9,156,[gJ (dF b9 (.inl r1.1) (IntKind.wrap .i64 (((aU b9 (.inl r1.1)).getD 0)+1)))]),(4182,9,[dO b3.aA]),(4183,26,[aQ b3.aj]),(1000000,137,aH r1.2)]) (by cases hx2;rfl) (by cases hx2;rfl) (To.ai (cn h (fun h=>?_) (fun h=>?_)))
   ·refine Wp.seq (rg [2,3] [2,3,4182,4183,1000000] [(2,.own 2 0),(3,.own 3 0)] [(2,26,qc9 b2),(3,26,dQ 4182 4183 b3),(4182,9,[dO b3.aA]),(4183,26,[aQ b3.aj]),(1000000,137,[.str r1.2.f_s,vi r1.2.aC,vb true])] (To.ai (Wp.seq (rg [2] [2,4182,4183,1000000] [(2,.own 2 0)] [(2,26,dQ 4182 4183 b3),(4182,9,[dO b3.aA]),(4183,26,[aQ b3.aj]),(1000000,137,[.str r1.2.f_s,vi r1.2.aC,vb true])] (To.ai (Wp.ret (To.aO (To.kF (.inr (.inl rfl)) (nt [2] [2,4182,4183,1000000] [(4182,4122),(4183,4123)] [2] [2,4122,4123,1000000] [(2,.own 2 0)] [(2,26,dQ 4122 4123 b3),(4122,9,[dO b3.aA]),(4123,26,[aQ b3.aj]),(1000000,137,[.str r1.2.f_s,vi r1.2.aC,vb true])] ?_)))))))))
    cases h
    exact hQ
   ·refine Wp.skip (To.ai (Wp.seq ?_))
    obtain⟨r3,hr3,h⟩:=aG h
    refine rb [] 1 ⟨[(1000000,1000000)],[(1000000,1000000)],[.own 1000000 0],[(1000000,137,aH r1.2)],.tup [.agg (qc9 r3.1),vb r3.2.1],[(1000000,137,aH r3.2.2)]⟩ [0,2,3,4,5,6] [2,3,6,9,4182,4183,1000000] [(0,.own 1000000 0),(2,.own 2 0),(3,.own 3 0),(4,.mp 9),(5,.str r1.1),(6,.own 6 0)] [(2,26,qc9 b2),(3,26,dQ 4182 4183 b3),(6,26,qc9 r3.1),(9,156,[gJ (dF b9 (.inl r1.1) (IntKind.wrap .i64 (((aU b9 (.inl r1.1)).getD 0)+1)))]),(4182,9,[dO b3.aA]),(4183,26,[aQ b3.aj]),(1000000,137,aH r3.2.2)] ((hR_flow_reader_value__o0 r1.2 _ hr3)) (To.ai (Wp.seq ?_))
    obtain⟨hc6,h⟩:=aK h
    obtain⟨hc7,h⟩:=aK h
    refine Wp.sG hm hΓ [] [(3,ls [r1.1]),(4,ls (b3.aA++([r1.1]:Ls))),(8,dP [r3.1]),(9,dP (b3.aj++([r3.1]:List (af))))] [] [0,2,3,4,5,6,45,46,47,48,49,50,51,52,53,54,55,56] [2,3,6,9,48,49,53,54,4182,4183,1000000] [0,2,3,4] [2,3,9,49,54,1000000] (K':=[(0,.own 1000000 0),(2,.own 2 0),(3,.own 3 0),(4,.mp 9)]) (L':=[(2,26,qc9 b2),(3,26,dQ 49 54 b3),(9,156,[gJ (dF b9 (.inl r1.1) (IntKind.wrap .i64 (((aU b9 (.inl r1.1)).getD 0)+1)))]),(49,9,[dO (b3.aA++([r1.1]:Ls))]),(54,26,[aQ (b3.aj++([r3.1]:List (af)))]),(1000000,137,aH r3.2.2)]) (ob:=[(fV 1 [.str r1.1] 1 (ls [r1.1])/\aV (ls [r1.1])),(decide ((List.length b3.aA+List.length ([r1.1]:Ls))*(16+1)<=limit))=true,(i7 [] gw b3.aA (List.flatMap gw ([r1.1]:Ls)) (List.length ([r1.1]:Ls)) (ls (b3.aA++([r1.1]:Ls)))/\aV (ls (b3.aA++([r1.1]:Ls)))),(fV 4 (qc9 r3.1) 1 (dP [r3.1])/\aV (dP [r3.1])),(decide ((List.length b3.aj+List.length ([r3.1]:List (af)))*(72+1)<=limit))=true,(i7 zx7 dU b3.aj (List.flatMap dU ([r3.1]:List (af))) (List.length ([r3.1]:List (af))) (dP (b3.aj++([r3.1]:List (af))))/\aV (dP (b3.aj++([r3.1]:List (af)))))]) (by kernel_rfl) (by kernel_rfl) (ax.cons (jY (by kernel_rfl) rfl (by kernel_rfl) (fC _)) (ax.cons hc6 (ax.cons (ja rfl rfl (fC _)) (ax.cons (jY (by kernel_rfl) rfl (by kernel_rfl) (bP _)) (ax.cons hc7 (ax.cons (ja rfl rfl (bP _)) ax.nil)))))) (To.ai (Wp.seq (Wp.seq (rg [0,2,3,4,60] [2,3,9,49,54,1000000] [(0,.own 1000000 0),(2,.own 2 0),(3,.own 3 0),(4,.mp 9),(60,vb r3.2.2.bI)] [(2,26,qc9 b2),(3,26,dQ 49 54 b3),(9,156,[gJ (dF b9 (.inl r1.1) (IntKind.wrap .i64 (((aU b9 (.inl r1.1)).getD 0)+1)))]),(49,9,[dO (b3.aA++([r1.1]:Ls))]),(54,26,[aQ (b3.aj++([r3.1]:List (af)))]),(1000000,137,aH r3.2.2)] (To.ai (cn h (fun h=>?_) (fun h=>?_)))))))
    ·refine Wp.seq (rg [2] [2,49,54,1000000] [(2,.own 2 0)] [(2,26,dQ 49 54 b3),(49,9,[dO (b3.aA++([r1.1]:Ls))]),(54,26,[aQ (b3.aj++([r3.1]:List (af)))]),(1000000,137,aH r3.2.2)] (To.ai (Wp.ret (To.aO (To.kF (.inr (.inl rfl)) (nt [2] [2,49,54,1000000] [(49,4122),(54,4123)] [2] [2,4122,4123,1000000] [(2,.own 2 0)] [(2,26,dQ 4122 4123 b3),(4122,9,[dO (b3.aA++([r1.1]:Ls))]),(4123,26,[aQ (b3.aj++([r3.1]:List (af)))]),(1000000,137,aH r3.2.2)] ?_))))))
     cases h
     exact hQ
    ·refine Wp.skip (To.ai (Wp.seq (Wp.seq ?_)))
     obtain⟨r4,hr4,h⟩:=aG h
     refine rb [] 1 ⟨[(1000000,1000000)],[(1000000,1000000)],[.own 1000000 0,.val (.int .u8 44)],[(1000000,137,aH r3.2.2)],vb r4.1,[(1000000,137,aH r4.2)]⟩ [0,2,3,4,63] [2,3,9,49,54,1000000] [(0,.own 1000000 0),(2,.own 2 0),(3,.own 3 0),(4,.mp 9),(63,vb r4.1)] [(2,26,qc9 b2),(3,26,dQ 49 54 b3),(9,156,[gJ (dF b9 (.inl r1.1) (IntKind.wrap .i64 (((aU b9 (.inl r1.1)).getD 0)+1)))]),(49,9,[dO (b3.aA++([r1.1]:Ls))]),(54,26,[aQ (b3.aj++([r3.1]:List (af)))]),(1000000,137,aH r4.2)] ((cy n 44 r3.2.2 _ hr4)) (To.ai (cn h (fun h=>?_) (fun h=>?_)))
     ·refine Wp.goto (To.yz (nt [0,2,3,4] [2,3,9,49,54,1000000] [(49,4182),(54,4183)] [0,2,3,4] [2,3,9,4182,4183,1000000] [(0,.own 1000000 0),(2,.own 2 0),(3,.own 3 0),(4,.mp 9)] [(2,26,qc9 b2),(3,26,dQ 4182 4183 b3),(9,156,[gJ (dF b9 (.inl r1.1) (IntKind.wrap .i64 (((aU b9 (.inl r1.1)).getD 0)+1)))]),(4182,9,[dO (b3.aA++([r1.1]:Ls))]),(4183,26,[aQ (b3.aj++([r3.1]:List (af)))]),(1000000,137,aH r4.2)] (To.goto (rest:=cG 0 (cB (cF Tryz.f127))) (by kernel_rfl) ?_)))
      exact ih.2 b2 (af.mk b3.aF b3.au (b3.aA++([r1.1]:Ls)) (b3.aj++([r3.1]:List (af)))) (dF b9 (.inl r1.1) (IntKind.wrap .i64 (((aU b9 (.inl r1.1)).getD 0)+1))) r4.2 _ h hQ
     ·refine Wp.skip (To.ai (Wp.seq ?_))
      obtain⟨r5,hr5,h⟩:=aG h
      refine rb [] 2 ⟨[(1000000,1000000)],[(1000000,1000000)],[.own 1000000 0,.val (.int .u8 125)],[(1000000,137,aH r4.2)],vb r5.1,[(1000000,137,aH r5.2)]⟩ [2,3] [2,3,49,54,1000000] [(2,.own 2 0),(3,.own 3 0)] [(2,26,qc9 b2),(3,26,dQ 49 54 b3),(49,9,[dO (b3.aA++([r1.1]:Ls))]),(54,26,[aQ (b3.aj++([r3.1]:List (af)))]),(1000000,137,[.str r5.2.f_s,vi r5.2.aC,vb (!r5.1)])] ((cy n 125 r4.2 _ hr5)) (To.ai (Wp.seq (rg [2] [2,49,54,1000000] [(2,.own 2 0)] [(2,26,dQ 49 54 b3),(49,9,[dO (b3.aA++([r1.1]:Ls))]),(54,26,[aQ (b3.aj++([r3.1]:List (af)))]),(1000000,137,[.str r5.2.f_s,vi r5.2.aC,vb (!r5.1)])] (To.ai (Wp.ret (To.kF (.inr (.inl rfl)) (nt [2] [2,49,54,1000000] [(49,4122),(54,4123)] [2] [2,4122,4123,1000000] [(2,.own 2 0)] [(2,26,dQ 4122 4123 b3),(4122,9,[dO (b3.aA++([r1.1]:Ls))]),(4123,26,[aQ (b3.aj++([r3.1]:List (af)))]),(1000000,137,[.str r5.2.f_s,vi r5.2.aC,vb (!r5.1)])] ?_)))))))
      cases h
      exact hQ
def eY(R_flow_reader_value__o0:ah->Option (af×Bool×ah))(n:Nat)(h0:ah):Option (af×ah) :=
 (bQ R_flow_reader_value__o0 n n (af.mk 0 [] [] []) h0).bind fun o1 =>
 some (o1.1,o1.2)
abbrev fQ(l:Ls):D:=.aN true (α:=Bs) [] gw l
theorem uf(R_flow_reader_value__o0:ah->Option (af×Bool×ah))(hR_flow_reader_value__o0:zZ R_flow_reader_value__o0)(n:Nat)(h0:ah)(r:af×ah)(h:eY R_flow_reader_value__o0 n h0=some r):aY Tryz.prog 127 [.own 1000000 0] [(1000000,137,aH h0)] (.agg (qc9 r.1)) [(1000000,137,aH r.2)]:=by
 unfold eY at h
 refine bo Tryz.f127 rfl fun F0 w0=>?_
 refine Wp.seq (rg [0,2] [2,1000000] [(0,.own 1000000 0),(2,.own 2 0)] [(2,26,[vi 0,.str [],.val (.slice none 0 0),.val (.slice none 0 0)]),(1000000,137,aH h0)] (To.ai ?_))
 obtain⟨o1,ho1,h⟩:=aG h
 refine kw [0,2] [2,1000000] [(0,.own 1000000 0),(2,.own 2 0)] [(2,26,[vi 0,.str [],.val (.slice none 0 0),.val (.slice none 0 0)]),(1000000,137,aH h0)] (Wp.weak (K':=[(0,.own 1000000 0),(2,.own 2 0)]) (L':=[(2,26,[vi 0,.str [],ls [],tn8 []]),(1000000,137,aH h0)]) (.cons (.refl _) (.cons (.refl _) .nil)) (.cons (.cons (.refl _) (.cons (.refl _) (.cons (.zero _ _) (.cons (.ig _ _ _) .nil)))) (.cons (.cons (.refl _) (.cons (.refl _) (.cons (.refl _) .nil))) .nil)) (Wp.Fp ((rm R_flow_reader_value__o0 hR_flow_reader_value__o0 n n).1 zx7 h0 o1 ho1 (kt [2] [2,4122,4123,1000000] [(2,.own 2 0)] [(2,26,dQ 4122 4123 o1.1),(4122,9,[dO o1.1.aA]),(4123,26,[aQ o1.1.aj]),(1000000,137,aH o1.2)] (To.pre (St.settle (ks:=[4122,4123]) (kk:=[2]) (kl:=[2,4122,4123,1000000]) (K':=[(2,.own 2 0)]) (L':=[(2,26,dQ 4122 4123 o1.1),(4122,9,[fQ o1.1.aA]),(4123,26,[rN o1.1.aj]),(1000000,137,aH o1.2)]) (by kernel_rfl)) (To.pre (St.Et [2] (L':=[(2,26,I8 o1.1),(4122,9,[fQ o1.1.aA]),(4123,26,[rN o1.1.aj]),(1000000,137,aH o1.2)]) (by kernel_rfl)) (To.weak (K':=[(2,.own 2 0)]) (L':=[(2,26,qc9 o1.1),(4122,9,[fQ o1.1.aA]),(4123,26,[rN o1.1.aj]),(1000000,137,aH o1.2)]) (.cons (.refl _) .nil) (.cons (.cons (.refl _) (.cons (.refl _) (.cons (.refl _) (.cons (.close _ _ _ _) .nil)))) (.cons (.cons (.refl _) .nil) (.cons (.cons (.refl _) .nil) (.cons (.cons (.refl _) (.cons (.refl _) (.cons (.refl _) .nil))) .nil)))) ?_)))))))
 cases h
 exact To.ff hΓ [1000000] (by kernel_rfl) (by kernel_rfl)
def dI(R_flow_reader_value__o0:ah->Option (af×Bool×ah))(n:Nat)(v8:Int)(v17:Bool)(b2:af)(b1000000:ah):Option (Bool) :=
 if v17=true then some v17
 else(some (v8==39))
theorem qY(R_flow_reader_value__o0:ah->Option (af×Bool×ah))(hR_flow_reader_value__o0:zZ R_flow_reader_value__o0)(n:Nat)(v8:Int)(v17:Bool)(b2:af)(b1000000:ah)(o:Bool)(h:dI R_flow_reader_value__o0 n v8 v17 b2 b1000000=some o)(hQ:To 44 F0 w0 [(0,.own 1000000 0),(2,.own 2 0),(17,vb o)] [(2,26,qc9 b2),(1000000,137,aH b1000000)] .normal Q):Wp Tryz.prog 44 F0 w0 [(0,.own 1000000 0),(2,.own 2 0),(8,.val (.int .u8 v8)),(17,vb v17)] [(2,26,qc9 b2),(1000000,137,aH b1000000)] (cB (cA (cE (cB (cE (cB (cI (cB (cA (cB (cF Tryz.f112))))))))))) Q:=by
 unfold dI at h
 refine cn h (fun h=>?_) (fun h=>?_)
 ·refine Wp.skip (kt [0,2,17] [2,1000000] [(0,.own 1000000 0),(2,.own 2 0),(17,vb v17)] [(2,26,qc9 b2),(1000000,137,aH b1000000)] ?_)
  cases h
  exact hQ
 ·refine rg [0,2,17] [2,1000000] [(0,.own 1000000 0),(2,.own 2 0),(17,vb (v8==39))] [(2,26,qc9 b2),(1000000,137,aH b1000000)] (kt [0,2,17] [2,1000000] [(0,.own 1000000 0),(2,.own 2 0),(17,vb (v8==39))] [(2,26,qc9 b2),(1000000,137,aH b1000000)] ?_)
  cases h
  exact hQ
def gp(R_flow_reader_value__o0:ah->Option (af×Bool×ah))(n:Nat)(v8:Int)(b2:af)(b1000000:ah):Option (Sum (af×ah) (Bool×af×ah)) :=
 if(v8==91)=true then((fJ R_flow_reader_value__o0 n b1000000).bind fun r2 =>
 some (.inr (true,r2.1,r2.2)))
 else(if(v8==123)=true then((eY R_flow_reader_value__o0 n b1000000).bind fun r3 =>
 some (.inr (true,r3.1,r3.2)))
 else((dI R_flow_reader_value__o0 n v8 (v8==34) b2 b1000000).bind fun o4 =>
 if o4=true then((dS n b1000000).bind fun r5 =>
 aP (ru r5.1) fun r6 =>
 some (.inr (true,r6,r5.2)))
 else(some (.inl (b2,b1000000)))))
theorem rq(R_flow_reader_value__o0:ah->Option (af×Bool×ah))(hR_flow_reader_value__o0:zZ R_flow_reader_value__o0)(n:Nat)(v8:Int)(b2:af)(b1000000:ah)(o:Sum (af×ah) (Bool×af×ah))(h:gp R_flow_reader_value__o0 n v8 b2 b1000000=some o)(hQ:(Sum.elim (fun s=>To 44 F0 w0 [(0,.own 1000000 0),(2,.own 2 0)] [(2,26,qc9 s.1),(1000000,137,aH s.2)] .normal Q) (fun s=>To 44 F0 w0 [(2,.own 2 0),(3,vb s.1)] [(2,26,qc9 s.2.1),(1000000,137,aH s.2.2)] .ret Q)) o):Wp Tryz.prog 44 F0 w0 [(0,.own 1000000 0),(2,.own 2 0),(8,.val (.int .u8 v8))] [(2,26,qc9 b2),(1000000,137,aH b1000000)] (cB (cA (cB (cF Tryz.f112)))) Q:=by
 unfold gp at h
 refine Wp.block (Wp.seq (rg [0,2,8,9] [2,1000000] [(0,.own 1000000 0),(2,.own 2 0),(8,.val (.int .u8 v8)),(9,vb (v8==91))] [(2,26,qc9 b2),(1000000,137,aH b1000000)] (To.ai (cn h (fun h=>?_) (fun h=>?_)))))
 ·refine Wp.seq ?_
  obtain⟨r2,hr2,h⟩:=aG h
  refine rb [] 1 ⟨[(1000000,1000000)],[(1000000,1000000)],[.own 1000000 0],[(1000000,137,aH b1000000)],.agg (qc9 r2.1),[(1000000,137,aH r2.2)]⟩ [2,3] [2,1000000] [(2,.own 2 0),(3,vb true)] [(2,26,qc9 r2.1),(1000000,137,aH r2.2)] ((uT R_flow_reader_value__o0 hR_flow_reader_value__o0 n b1000000 _ hr2)) (To.ai (Wp.ret (To.aX ?_)))
  cases h
  exact hQ
 ·refine Wp.seq (rg [0,2,8,13] [2,1000000] [(0,.own 1000000 0),(2,.own 2 0),(8,.val (.int .u8 v8)),(13,vb (v8==123))] [(2,26,qc9 b2),(1000000,137,aH b1000000)] (To.ai (cn h (fun h=>?_) (fun h=>?_))))
  ·refine Wp.seq ?_
   obtain⟨r3,hr3,h⟩:=aG h
   refine rb [] 1 ⟨[(1000000,1000000)],[(1000000,1000000)],[.own 1000000 0],[(1000000,137,aH b1000000)],.agg (qc9 r3.1),[(1000000,137,aH r3.2)]⟩ [2,3] [2,1000000] [(2,.own 2 0),(3,vb true)] [(2,26,qc9 r3.1),(1000000,137,aH r3.2)] ((uf R_flow_reader_value__o0 hR_flow_reader_value__o0 n b1000000 _ hr3)) (To.ai (Wp.ret (To.aX ?_)))
   cases h
   exact hQ
  ·refine Wp.seq (Wp.seq (rg [0,2,8,17] [2,1000000] [(0,.own 1000000 0),(2,.own 2 0),(8,.val (.int .u8 v8)),(17,vb (v8==34))] [(2,26,qc9 b2),(1000000,137,aH b1000000)] (To.ai ?_)))
   obtain⟨o4,ho4,h⟩:=aG h
   refine kw [0,2,8,17] [2,1000000] [(0,.own 1000000 0),(2,.own 2 0),(8,.val (.int .u8 v8)),(17,vb (v8==34))] [(2,26,qc9 b2),(1000000,137,aH b1000000)] (qY R_flow_reader_value__o0 hR_flow_reader_value__o0 n v8 (v8==34) b2 b1000000 o4 ho4 (To.ai (cn h (fun h=>?_) (fun h=>?_))))
   ·refine Wp.seq ?_
    obtain⟨r5,hr5,h⟩:=aG h
    obtain⟨r6,hr6,h⟩:=bV h
    refine rr [] [(2,.agg (qc9 r6))] [(1,⟨[(1000000,1000000)],[(1000000,1000000)],[.own 1000000 0],[(1000000,137,aH b1000000)],.str r5.1,[(1000000,137,aH r5.2)]⟩)] [2,3] [2,1000000] [(2,.own 2 0),(3,vb true)] [(2,26,qc9 r6),(1000000,137,aH r5.2)] [rK (aY Tryz.prog) 128 [.own 1000000 0] [some (137,aH b1000000)] ⟨[(1000000,1000000)],[(1000000,1000000)],[.own 1000000 0],[(1000000,137,aH b1000000)],.str r5.1,[(1000000,137,aH r5.2)]⟩,_] (ax.cons (⟨(mh n b1000000 _ hr5),by kernel_rfl,by kernel_rfl⟩) (ax.cons (c1 (tq r5.1 _ hr6)) ax.nil)) ?_
    refine To.ai (Wp.ret (To.aX ?_))
    cases h
    exact hQ
   ·refine Wp.skip (To.br (kt [0,2] [2,1000000] [(0,.own 1000000 0),(2,.own 2 0)] [(2,26,qc9 b2),(1000000,137,aH b1000000)] ?_))
    cases h
    exact hQ
def eu(R_flow_reader_value__o0:ah->Option (af×Bool×ah))(n:Nat)(h0:ah):Option (af×Bool×ah) :=
 (dR n h0).bind fun r1 =>
 (gp R_flow_reader_value__o0 n r1.1 (af.mk 0 [] [] []) r1.2).bind fun o2 =>
 (Sum.elim (fun o2=>(fY n o2.2).bind fun r3 =>
 (dK n r3.1 true).bind fun r4 =>
 some (r4.1,(!(r3.1==[])),(ah.mk r3.2.f_s r3.2.aC (bif r3.2.bI then true else(r4.2 != 0))))) (fun o2=>some (o2.2.1,o2.1,o2.2.2))) o2
theorem rC(R_flow_reader_value__o0:ah->Option (af×Bool×ah))(hR_flow_reader_value__o0:zZ R_flow_reader_value__o0)(n:Nat)(h0:ah)(r:af×Bool×ah)(h:eu R_flow_reader_value__o0 n h0=some r):aY Tryz.prog 112 [.own 1000000 0] [(1000000,137,aH h0)] (.tup [.agg (qc9 r.1),vb r.2.1]) [(1000000,137,aH r.2.2)]:=by
 unfold eu at h
 refine bo Tryz.f112 rfl fun F0 w0=>?_
 refine Wp.seq (rg [0,2] [2,1000000] [(0,.own 1000000 0),(2,.own 2 0)] [(2,26,[vi 0,.str [],.val (.slice none 0 0),.val (.slice none 0 0)]),(1000000,137,aH h0)] (To.ai (Wp.seq (Wp.seq ?_))))
 obtain⟨r1,hr1,h⟩:=aG h
 refine rb [] 1 ⟨[(1000000,1000000)],[(1000000,1000000)],[.own 1000000 0],[(1000000,137,aH h0)],.val (.int .u8 r1.1),[(1000000,137,aH r1.2)]⟩ [0,2,8] [2,1000000] [(0,.own 1000000 0),(2,.own 2 0),(8,.val (.int .u8 r1.1))] [(2,26,[vi 0,.str [],.val (.slice none 0 0),.val (.slice none 0 0)]),(1000000,137,aH r1.2)] ((jd n h0 _ hr1)) (To.ai ?_)
 obtain⟨o2,ho2,h⟩:=aG h
 refine kw [0,2,8] [2,1000000] [(0,.own 1000000 0),(2,.own 2 0),(8,.val (.int .u8 r1.1))] [(2,26,[vi 0,.str [],.val (.slice none 0 0),.val (.slice none 0 0)]),(1000000,137,aH r1.2)] (Wp.weak (K':=[(0,.own 1000000 0),(2,.own 2 0),(8,.val (.int .u8 r1.1))]) (L':=[(2,26,[vi 0,.str [],ls [],tn8 []]),(1000000,137,aH r1.2)]) (.cons (.refl _) (.cons (.refl _) (.cons (.refl _) .nil))) (.cons (.cons (.refl _) (.cons (.refl _) (.cons (.zero _ _) (.cons (.ig _ _ _) .nil)))) (.cons (.cons (.refl _) (.cons (.refl _) (.cons (.refl _) .nil))) .nil)) (rq R_flow_reader_value__o0 hR_flow_reader_value__o0 n r1.1 zx7 r1.2 o2 ho2 ?_))
 rcases o2 with o2|o2
 ·replace h:=jy h
  refine To.ai (Wp.seq ?_)
  obtain⟨r3,hr3,h⟩:=aG h
  refine rb [] 1 ⟨[(1000000,1000000)],[(1000000,1000000)],[.own 1000000 0],[(1000000,137,aH o2.2)],.str r3.1,[(1000000,137,aH r3.2)]⟩ [0,2,4] [2,1000000] [(0,.own 1000000 0),(2,.own 2 0),(4,.str r3.1)] [(2,26,qc9 o2.1),(1000000,137,aH r3.2)] ((mV n o2.2 _ hr3)) (To.ai (Wp.seq ?_))
  obtain⟨r4,hr4,h⟩:=aG h
  refine rc [] 1 [0,2,4,5,6] [2,5,1000000] [(0,.own 1000000 0),(2,.own 2 0),(4,.str r3.1),(5,.own 5 0),(6,vi r4.2)] [(2,26,qc9 o2.1),(5,26,qc9 r4.1),(1000000,137,aH r3.2)] (vg n r3.1 true _ hr4) (To.ai (Wp.seq (rg [2,4,5] [2,5,1000000] [(2,.own 2 0),(4,.str r3.1),(5,.own 5 0)] [(2,26,qc9 o2.1),(5,26,qc9 r4.1),(1000000,137,[.str r3.2.f_s,vi r3.2.aC,vb (bif r3.2.bI then true else(r4.2 != 0))])] (To.ai (Wp.seq (rg [2,3] [2,1000000] [(2,.own 2 0),(3,vb (!(r3.1==[])))] [(2,26,qc9 r4.1),(1000000,137,[.str r3.2.f_s,vi r3.2.aC,vb (bif r3.2.bI then true else(r4.2 != 0))])] (To.ai (Wp.ret ?_))))))))
  cases h
  exact To.ff hΓ [1000000] (by kernel_rfl) (by kernel_rfl)
 ·replace h:=ju h
  refine To.aO ?_
  cases h
  exact To.ff hΓ [1000000] (by kernel_rfl) (by kernel_rfl)
def aT:Nat->ah->Option (af×Bool×ah)
 |0=>fun _=>none
 |n+1=>eu (aT n) n
theorem tX(n:Nat):∀(h0:ah)(r:af×Bool×ah),aT n h0=some r->aY Tryz.prog 112 [.own 1000000 0] [(1000000,137,aH h0)] (.tup [.agg (qc9 r.1),vb r.2.1]) [(1000000,137,aH r.2.2)]:=by
 induction n with
 |zero=>intro h0 r h;cases h
 |succ n ih=>exact fun h0 r h=>rC (aT n) ih n h0 r h
structure aJ where
 dB:Int
def nT(n:Nat)(a0:Ls):Option ((Ls)) :=
 if(decide ((List.length ([]:Ls)+List.length a0)*(16+1)<=limit))=true then(if(decide (List.length (([]:Ls)++a0)*17<=limit))=true then(if(decide (List.length (Sh.sort (([]:Ls)++a0))*17<=limit))=true then(some (Lib.compact (Sh.sort (([]:Ls)++a0)))) else none) else none) else none
abbrev uR(x0:Ls):=(([]:Ls)++x0)
theorem BN(n:Nat)(a0:Ls)(r:(Ls))(h:nT n a0=some r):bC Tryz.prog 91 [ls a0] (ls r):=by
 unfold nT at h
 refine xo Tryz.f91 rfl fun F0 w0 _=>?_
 refine Wp.seq (rg [0] [] [(0,ls a0)] [] (To.ai (Wp.seq ?_)))
 obtain⟨hc3,h⟩:=aK h
 refine rr [] [(0,ls []),(2,ls (uR a0))] [] [3] [6] [(3,.row 6)] [(6,9,[dO (uR a0)])] [(fV 1 [] 0 (ls [])/\aV (ls [])),_,(i7 [] gw ([]:Ls) (List.flatMap gw a0) (List.length a0) (ls (uR a0))/\aV (ls (uR a0)))] (ax.cons (jY (by kernel_rfl) rfl (by kernel_rfl) (fC _)) (ax.cons hc3 (ax.cons (ja rfl rfl (fC _)) ax.nil))) (To.ai (Wp.seq ?_))
 obtain⟨u1,h⟩:=aK h
 refine rb [] 1 ⟨[(1000000,6)],[(1000000,6)],[.row 1000000],[(1000000,9,[dO (uR a0)])],.tup [],[(1000000,9,[dO (Sh.sort (uR a0))])]⟩ [3] [6] [(3,.row 6)] [(6,9,[dO (Sh.sort (uR a0))])] (Sh.PU u1) (To.ai (Wp.seq ?_))
 obtain⟨u2,h⟩:=aK h
 refine rb [] 1 ⟨[(1000000,6)],[],[.row 1000000],[(1000000,9,[dO (Sh.sort (uR a0))])],ls (Lib.compact (Sh.sort (uR a0))),[]⟩ [2] [] [(2,ls (Lib.compact (Sh.sort (uR a0))))] [] (Sh.Jw u2) (To.ai (Wp.ret ?_))
 cases h
 exact To.done hΓ (by kernel_rfl)
def iK(R_node_budget_right__o0:af->Int->aJ->Option (Bool×aJ))(n:Nat)(v2:Int)(v26:Int)(b4:af)(b1000000:aJ):Option (Sum (Unit) (Bool)) :=
 if(v26==0)=true then(aP ((bif (b4.au==[]) then((IntKind.wrap .i64 ((List.length b4.aA:Int)+(List.length b4.aj:Int)))==0) else false):Bool) fun x1 =>
 some (.inr x1))
 else(if(v26==1)=true then(some (.inr ((IntKind.wrap .i64 ((List.length b4.aA:Int)+(List.length b4.aj:Int)))==0)))
 else(if(v26==2)=true then(if(bif (!(b4.au==[])) then true else(decide ((List.length b4.aA:Int)>0)))=true then(some (.inr false))
 else(some (.inl ())))
 else(if(v26==3)=true then(((if((bif (bif (!(b4.au==[])) then true else((List.length b4.aA:Int) != (List.length b4.aj:Int))) then true else(decide ((List.length b4.aA:Int)>b1000000.dB)))==false)=true then nT n b4.aA else some [])).bind fun r2 =>
 aP ((bif (bif (bif (!(b4.au==[])) then true else((List.length b4.aA:Int) != (List.length b4.aj:Int))) then true else(decide ((List.length b4.aA:Int)>b1000000.dB))) then true else((List.length r2:Int) != (List.length b4.aA:Int))):Bool) fun x3 =>
 if x3=true then(some (.inr false))
 else(some (.inl ())))
 else(some (.inr false)))))
abbrev Nu(R_node_budget_right__o0:af->Int->aJ->Option (Bool×aJ)):Prop:=∀(a1:af)(a2:Int)(h0:aJ)(r:Bool×aJ),R_node_budget_right__o0 a1 a2 h0=some r->aY Tryz.prog 58 [.own 1000000 0,.agg [vi a1.aF,.str a1.au,ls a1.aA,tn8 a1.aj],vi a2] [(1000000,87,[vi h0.dB])] (vb r.1) [(1000000,87,[vi r.2.dB])]
abbrev jL(x0:aJ):Nat×Nat×List D:=(1000000,87,[vi x0.dB])
abbrev Q8(x0:af):=((IntKind.wrap .i64 ((List.length x0.aA:Int)+(List.length x0.aj:Int)))==0)
theorem qU(R_node_budget_right__o0:af->Int->aJ->Option (Bool×aJ))(hR_node_budget_right__o0:Nu R_node_budget_right__o0)(n:Nat)(v2:Int)(v26:Int)(b4:af)(b1000000:aJ)(o:Sum (Unit) (Bool))(h:iK R_node_budget_right__o0 n v2 v26 b4 b1000000=some o)(hQ:(Sum.elim (fun s=>To 111 F0 w0 [(0,.own 1000000 0),(2,vi v2),(4,.own 4 0)] [(4,26,qc9 b4),(jL b1000000)] .normal Q) (fun s=>To 111 F0 w0 [(6,vb s)] [(jL b1000000)] .ret Q)) o):Wp Tryz.prog 111 F0 w0 [(0,.own 1000000 0),(2,vi v2),(4,.own 4 0),(26,vi v26)] [(4,26,qc9 b4),(jL b1000000)] (cB (cA (cB (cB (cF Tryz.f58))))) Q:=by
 unfold iK at h
 refine Wp.block (Wp.seq (rg [0,2,4,26,27] [4,1000000] [(0,.own 1000000 0),(2,vi v2),(4,.own 4 0),(26,vi v26),(27,vb (v26==0))] [(4,26,qc9 b4),(jL b1000000)] (To.ai (cn h (fun h=>?_) (fun h=>?_)))))
 ·refine Wp.seq ?_
  obtain⟨x1,hx1,h⟩:=bV h
  refine rg [6] [1000000] [(6,vb (bif (b4.au==[]) then(Q8 b4) else false))] [(jL b1000000)] (To.eq (K':=[(6,vb x1)]) (L':=[(jL b1000000)]) (by cases hx1;rfl) (by cases hx1;rfl) (To.ai (Wp.ret (To.aX (kt [6] [1000000] [(6,vb x1)] [(jL b1000000)] ?_)))))
  cases h
  exact hQ
 ·refine Wp.seq (rg [0,2,4,26,42] [4,1000000] [(0,.own 1000000 0),(2,vi v2),(4,.own 4 0),(26,vi v26),(42,vb (v26==1))] [(4,26,qc9 b4),(jL b1000000)] (To.ai (cn h (fun h=>?_) (fun h=>?_))))
  ·refine Wp.seq (rg [6] [1000000] [(6,vb (Q8 b4))] [(jL b1000000)] (To.ai (Wp.ret (To.aX ?_))))
   cases h
   exact hQ
  ·refine Wp.seq (rg [0,2,4,26,52] [4,1000000] [(0,.own 1000000 0),(2,vi v2),(4,.own 4 0),(26,vi v26),(52,vb (v26==2))] [(4,26,qc9 b4),(jL b1000000)] (To.ai (cn h (fun h=>?_) (fun h=>?_))))
   ·refine Wp.seq (rg [0,2,4,62] [4,1000000] [(0,.own 1000000 0),(2,vi v2),(4,.own 4 0),(62,vb (bif (!(b4.au==[])) then true else(decide ((List.length b4.aA:Int)>0))))] [(4,26,qc9 b4),(jL b1000000)] (To.ai (cn h (fun h=>?_) (fun h=>?_))))
    ·refine Wp.seq (rg [6] [1000000] [(6,vb false)] [(jL b1000000)] (To.ai (Wp.ret (To.aX ?_))))
     cases h
     exact hQ
    ·refine Wp.skip (To.br (kt [0,2,4] [4,1000000] [(0,.own 1000000 0),(2,vi v2),(4,.own 4 0)] [(4,26,qc9 b4),(jL b1000000)] ?_))
     cases h
     exact hQ
   ·refine Wp.seq (rg [0,2,4,63] [4,1000000] [(0,.own 1000000 0),(2,vi v2),(4,.own 4 0),(63,vb (v26==3))] [(4,26,qc9 b4),(jL b1000000)] (To.ai (cn h (fun h=>?_) (fun h=>?_))))
    ·refine Wp.seq ?_
     obtain⟨r2,hr2,h⟩:=aG h
     obtain⟨x3,hx3,h⟩:=bV h
     refine Wp.eQ hm hΓ [(25,ls r2)] [0,2,4,96] [4,1000000] (K':=[(0,.own 1000000 0),(2,vi v2),(4,.own 4 0),(96,vb (bif (bif (bif (!(b4.au==[])) then true else((List.length b4.aA:Int) != (List.length b4.aj:Int))) then true else(decide ((List.length b4.aA:Int)>b1000000.dB))) then true else((List.length r2:Int) != (List.length b4.aA:Int))))]) (L':=[(4,26,qc9 b4),(jL b1000000)]) (ob:=[(((bif (bif (!(b4.au==[])) then true else((List.length b4.aA:Int) != (List.length b4.aj:Int))) then true else(decide ((List.length b4.aA:Int)>b1000000.dB)))==false)=true->CX Tryz.prog 91 [ls b4.aA] (ls r2))]) (by kernel_rfl) (ax.cons (fun hg=>cx (BN n b4.aA _ (jC hg hr2))) ax.nil) (To.eq (K':=[(0,.own 1000000 0),(2,vi v2),(4,.own 4 0),(96,vb x3)]) (L':=[(4,26,qc9 b4),(jL b1000000)]) (by cases hx3;rfl) (by cases hx3;rfl) (To.ai (cn h (fun h=>?_) (fun h=>?_))))
     ·refine Wp.seq (rg [6] [1000000] [(6,vb false)] [(jL b1000000)] (To.ai (Wp.ret (To.aX ?_))))
      cases h
      exact hQ
     ·refine Wp.skip (To.br (kt [0,2,4] [4,1000000] [(0,.own 1000000 0),(2,vi v2),(4,.own 4 0)] [(4,26,qc9 b4),(jL b1000000)] ?_))
      cases h
      exact hQ
    ·refine Wp.seq (rg [6] [1000000] [(6,vb false)] [(jL b1000000)] (To.ai (Wp.ret (To.aX ?_))))
     cases h
     exact hQ
def bu(R_node_budget_right__o0:af->Int->aJ->Option (Bool×aJ))(n:Nat)(v2:Int)(v98:List (af))(v99:Int):Nat->Int->aJ->Option (Sum (aJ) (Bool×aJ))
 |0,_,_=>none
 |k+1,v100,b1000000=>if(decide (v100<v99))=true then(if(decide (0<=v100/\v100<(List.length v98:Int)))=true then((R_node_budget_right__o0 ((v98)[Int.toNat v100]?.getD (af.mk 0 [] [] [])) (IntKind.wrap .i64 (v2+1)) b1000000).bind fun r2 =>
 if(!r2.1)=true then(some (.inr (false,r2.2)))
 else(bu R_node_budget_right__o0 n v2 v98 v99 k (IntKind.wrap .i64 (v100+1)) r2.2)) else none)
 else(some (.inl b1000000))
abbrev wB(x0:List (af))(x1:Int):=((x0)[Int.toNat x1]?.getD zx7)
theorem qW(R_node_budget_right__o0:af->Int->aJ->Option (Bool×aJ))(hR_node_budget_right__o0:Nu R_node_budget_right__o0)(n:Nat)(v2:Int)(v98:List (af))(v99:Int)(k:Nat):∀(v100:Int)(b1000000:aJ)(o:Sum (aJ) (Bool×aJ)),bu R_node_budget_right__o0 n v2 v98 v99 k v100 b1000000=some o->(Sum.elim (fun s=>To 111 F0 w0 [] [(1000000,87,[vi s.dB])] (.exit 1) Q) (fun s=>To 111 F0 w0 [(6,vb s.1)] [(1000000,87,[vi s.2.dB])] .ret Q)) o->WL Tryz.prog 111 F0 w0 [(0,.own 1000000 0),(2,vi v2),(98,dP v98),(99,vi v99),(100,vi v100)] [(jL b1000000)] (cI (cI (cB (cA (cB (cB (cB (cF Tryz.f58)))))))) Q:=by
 induction k with
 |zero=>intro v100 b1000000 o h;cases h
 |succ k ih =>
  intro v100 b1000000 o h hQ
  rw[bu] at h
  refine WL.round (Wp.seq (rg [0,2,98,99,100,101] [1000000] [(0,.own 1000000 0),(2,vi v2),(98,dP v98),(99,vi v99),(100,vi v100),(101,vb (decide (v100<v99)))] [(jL b1000000)] (To.ai (Wp.seq (cn h (fun h=>?_) (fun h=>?_))))))
  ·refine Wp.skip (To.ai (Wp.seq (Wp.block (Wp.seq ?_))))
   obtain⟨hc3,h⟩:=aK h
   refine r0 [0,2,8,98,99,100] [8,1000000] [(0,.own 1000000 0),(2,vi v2),(8,.own 8 0),(98,dP v98),(99,vi v99),(100,vi v100)] [(8,26,[vi ((wB v98 v100).aF),.str ((wB v98 v100).au),ls ((wB v98 v100).aA),tn8 ((wB v98 v100).aj)]),(jL b1000000)] (ax.cons hc3 ax.nil) (To.ai (Wp.seq ?_))
   obtain⟨r2,hr2,h⟩:=aG h
   refine rb [] 4 ⟨[(1000000,1000000)],[(1000000,1000000)],[.own 1000000 0,.agg [vi ((wB v98 v100).aF),.str ((wB v98 v100).au),ls ((wB v98 v100).aA),tn8 ((wB v98 v100).aj)],vi (IntKind.wrap .i64 (v2+1))],[(jL b1000000)],vb r2.1,[(1000000,87,[vi r2.2.dB])]⟩ [0,2,98,99,100,109] [1000000] [(0,.own 1000000 0),(2,vi v2),(98,dP v98),(99,vi v99),(100,vi v100),(109,vb (!r2.1))] [(1000000,87,[vi r2.2.dB])] ((hR_node_budget_right__o0 (wB v98 v100) (IntKind.wrap .i64 (v2+1)) b1000000 _ hr2)) (To.ai (cn h (fun h=>?_) (fun h=>?_)))
   ·refine Wp.seq (rg [6] [1000000] [(6,vb false)] [(1000000,87,[vi r2.2.dB])] (To.ai (Wp.ret (To.aX (To.aO (To.aO ?_))))))
    cases h
    exact hQ
   ·refine Wp.skip (To.br (To.ai (rg [0,2,98,99,100] [1000000] [(0,.own 1000000 0),(2,vi v2),(98,dP v98),(99,vi v99),(100,vi (IntKind.wrap .i64 (v100+1)))] [(1000000,87,[vi r2.2.dB])] (kt [0,2,98,99,100] [1000000] [(0,.own 1000000 0),(2,vi v2),(98,dP v98),(99,vi v99),(100,vi (IntKind.wrap .i64 (v100+1)))] [(1000000,87,[vi r2.2.dB])] (To.again ?_)))))
    exact ih (IntKind.wrap .i64 (v100+1)) r2.2 _ h hQ
  ·refine Wp.exit (To.dZ (To.dZ (kt [] [1000000] [] [(jL b1000000)] ?_)))
   cases h
   exact hQ
def eE(R_node_budget_right__o0:af->Int->aJ->Option (Bool×aJ))(n:Nat)(a1:af)(a2:Int)(h0:aJ):Option (Bool×aJ) :=
 if(bif (decide ((IntKind.wrap .i64 (h0.dB-1))<0)) then true else(decide (a2>12)))=true then(some (false,(aJ.mk (IntKind.wrap .i64 (h0.dB-1)))))
 else((iK R_node_budget_right__o0 n a2 a1.aF a1 (aJ.mk (IntKind.wrap .i64 (h0.dB-1)))).bind fun o1 =>
 (Sum.elim (fun o1=>(bu R_node_budget_right__o0 n a2 a1.aj (List.length a1.aj:Int) n 0 (aJ.mk (IntKind.wrap .i64 (h0.dB-1)))).bind fun o2 =>
 (Sum.elim (fun o2=>some (true,o2)) (fun o2=>some (o2.1,o2.2))) o2) (fun o1=>some (o1,(aJ.mk (IntKind.wrap .i64 (h0.dB-1)))))) o1)
theorem rD(R_node_budget_right__o0:af->Int->aJ->Option (Bool×aJ))(hR_node_budget_right__o0:Nu R_node_budget_right__o0)(n:Nat)(a1:af)(a2:Int)(h0:aJ)(r:Bool×aJ)(h:eE R_node_budget_right__o0 n a1 a2 h0=some r):aY Tryz.prog 58 [.own 1000000 0,.agg (qc9 a1),vi a2] [(1000000,87,[vi h0.dB])] (vb r.1) [(1000000,87,[vi r.2.dB])]:=by
 unfold eE at h
 refine bo Tryz.f58 rfl fun F0 w0=>?_
 refine Wp.seq (rg [0,2,4] [4,1000000] [(0,.own 1000000 0),(2,vi a2),(4,.own 4 0)] [(4,26,qc9 a1),(1000000,87,[vi h0.dB])] (To.ai (Wp.seq (Wp.seq (rg [0,2,4] [4,1000000] [(0,.own 1000000 0),(2,vi a2),(4,.own 4 0)] [(4,26,qc9 a1),(1000000,87,[vi (IntKind.wrap .i64 (h0.dB-1))])] (To.ai (Wp.seq (rg [0,2,4,24] [4,1000000] [(0,.own 1000000 0),(2,vi a2),(4,.own 4 0),(24,vb (bif (decide ((IntKind.wrap .i64 (h0.dB-1))<0)) then true else(decide (a2>12))))] [(4,26,qc9 a1),(1000000,87,[vi (IntKind.wrap .i64 (h0.dB-1))])] (To.ai (cn h (fun h=>?_) (fun h=>?_)))))))))))
 ·refine Wp.seq (rg [6] [1000000] [(6,vb false)] [(1000000,87,[vi (IntKind.wrap .i64 (h0.dB-1))])] (To.ai (Wp.ret (To.aO ?_))))
  cases h
  exact To.ff hΓ [1000000] (by kernel_rfl) (by kernel_rfl)
 ·refine Wp.skip (To.ai (Wp.seq (Wp.seq (rg [0,2,4,26] [4,1000000] [(0,.own 1000000 0),(2,vi a2),(4,.own 4 0),(26,vi a1.aF)] [(4,26,qc9 a1),(1000000,87,[vi (IntKind.wrap .i64 (h0.dB-1))])] (To.ai ?_)))))
  obtain⟨o1,ho1,h⟩:=aG h
  refine kw [0,2,4,26] [4,1000000] [(0,.own 1000000 0),(2,vi a2),(4,.own 4 0),(26,vi a1.aF)] [(4,26,qc9 a1),(1000000,87,[vi (IntKind.wrap .i64 (h0.dB-1))])] (qU R_node_budget_right__o0 hR_node_budget_right__o0 n a2 a1.aF a1 (aJ.mk (IntKind.wrap .i64 (h0.dB-1))) o1 ho1 ?_)
  rcases o1 with o1|o1
  ·replace h:=jy h
   refine To.ai (Wp.seq (Wp.seq (rg [0,2,98,99,100] [1000000] [(0,.own 1000000 0),(2,vi a2),(98,tn8 a1.aj),(99,vi (List.length a1.aj:Int)),(100,vi 0)] [(1000000,87,[vi (IntKind.wrap .i64 (h0.dB-1))])] (To.ai (Wp.block ?_)))))
   obtain⟨o2,ho2,h⟩:=aG h
   refine kw [0,2,98,99,100] [1000000] [(0,.own 1000000 0),(2,vi a2),(98,tn8 a1.aj),(99,vi (List.length a1.aj:Int)),(100,vi 0)] [(1000000,87,[vi (IntKind.wrap .i64 (h0.dB-1))])] (Wp.weak (K':=[(0,.own 1000000 0),(2,vi a2),(98,dP a1.aj),(99,vi (List.length a1.aj:Int)),(100,vi 0)]) (L':=[(1000000,87,[vi (IntKind.wrap .i64 (h0.dB-1))])]) (.cons (.refl _) (.cons (.refl _) (.cons (.opn _ _ _ _) (.cons (.refl _) (.cons (.refl _) .nil))))) (.cons (.cons (.refl _) .nil) .nil) (Wp.lD (qW R_node_budget_right__o0 hR_node_budget_right__o0 n a2 a1.aj (List.length a1.aj:Int) n 0 (aJ.mk (IntKind.wrap .i64 (h0.dB-1))) o2 ho2 ?_)))
   rcases o2 with o2|o2
   ·replace h:=jy h
    refine To.jH (To.ai (Wp.seq (rg [6] [1000000] [(6,vb true)] [(1000000,87,[vi o2.dB])] (To.ai (Wp.ret ?_)))))
    cases h
    exact To.ff hΓ [1000000] (by kernel_rfl) (by kernel_rfl)
   ·replace h:=ju h
    refine To.aX (To.aO ?_)
    cases h
    exact To.ff hΓ [1000000] (by kernel_rfl) (by kernel_rfl)
  ·replace h:=ju h
   refine To.aO ?_
   cases h
   exact To.ff hΓ [1000000] (by kernel_rfl) (by kernel_rfl)
def cO:Nat->af->Int->aJ->Option (Bool×aJ)
 |0=>fun _ _ _=>none
 |n+1=>eE (cO n) n
theorem tj(n:Nat):∀(a1:af)(a2:Int)(h0:aJ)(r:Bool×aJ),cO n a1 a2 h0=some r->aY Tryz.prog 58 [.own 1000000 0,.agg (qc9 a1),vi a2] [(1000000,87,[vi h0.dB])] (vb r.1) [(1000000,87,[vi r.2.dB])]:=by
 induction n with
 |zero=>intro a1 a2 h0 r h;cases h
 |succ n ih=>exact fun a1 a2 h0 r h=>rD (cO n) ih n a1 a2 h0 r h
def jK(n:Nat)(a0:af):Option (Bool) :=
 (cO n a0 1 (aJ.mk 2000)).bind fun r1 =>
 some r1.1
theorem wR(n:Nat)(a0:af)(r:Bool)(h:jK n a0=some r):bC Tryz.prog 26 [.agg (qc9 a0)] (vb r):=by
 unfold jK at h
 refine xo Tryz.f26 rfl fun F0 w0 _=>?_
 refine Wp.seq (rg [1] [1] [(1,.own 1 0)] [(1,26,qc9 a0)] (To.ai (Wp.seq (rg [1,3] [1,3] [(1,.own 1 0),(3,.own 3 0)] [(1,26,qc9 a0),(3,87,[vi 2000])] (To.ai (Wp.seq ?_))))))
 obtain⟨r1,hr1,h⟩:=aG h
 refine rb [] 1 ⟨[(1000000,3)],[(1000000,3)],[.own 1000000 0,.agg (qc9 a0),vi 1],[(1000000,87,[vi 2000])],vb r1.1,[(1000000,87,[vi r1.2.dB])]⟩ [2] [] [(2,vb r1.1)] [] ((tj n a0 1 (aJ.mk 2000) _ hr1)) (To.ai (Wp.ret ?_))
 cases h
 exact To.done hΓ (by kernel_rfl)
def gX(n:Nat)(a0:Bs):Option (af×Int) :=
 (aT n (ah.mk a0 0 false)).bind fun r1 =>
 ((if(r1.2.2.bI==false)=true then dR n r1.2.2 else some (0,r1.2.2))).bind fun r2 =>
 if(bif (bif r1.2.2.bI then true else(r2.1 != 0)) then true else(decide (r2.2.aC<(List.length a0:Int))))=true then(some ((af.mk 0 [] [] []),3))
 else((jK n r1.1).bind fun r3 =>
 if(!r3)=true then(some ((af.mk 0 [] [] []),9))
 else(some (r1.1,0)))
theorem Ei(n:Nat)(a0:Bs)(r:af×Int)(h:gX n a0=some r):bC Tryz.prog 90 [.str a0] (.tup [.agg (qc9 r.1),vi r.2]):=by
 unfold gX at h
 refine xo Tryz.f90 rfl fun F0 w0 _=>?_
 refine Wp.seq (rg [0,2] [2] [(0,.str a0),(2,.own 2 0)] [(2,26,[vi 0,.str [],.val (.slice none 0 0),.val (.slice none 0 0)])] (To.ai (Wp.seq (rg [0,2,4] [2,4] [(0,.str a0),(2,.own 2 0),(4,.own 4 0)] [(2,26,[vi 0,.str [],.val (.slice none 0 0),.val (.slice none 0 0)]),(4,137,[.str a0,vi 0,vb false])] (To.ai (Wp.seq ?_))))))
 obtain⟨r1,hr1,h⟩:=aG h
 refine rb [] 0 ⟨[(1000000,4)],[(1000000,4)],[.own 1000000 0],[(1000000,137,[.str a0,vi 0,vb false])],.tup [.agg (qc9 r1.1),vb r1.2.1],[(1000000,137,aH r1.2.2)]⟩ [0,2,4,5] [2,4,5] [(0,.str a0),(2,.own 2 0),(4,.own 4 0),(5,.own 5 0)] [(2,26,[vi 0,.str [],.val (.slice none 0 0),.val (.slice none 0 0)]),(4,137,aH r1.2.2),(5,26,qc9 r1.1)] ((tX n (ah.mk a0 0 false) _ hr1)) (To.ai (Wp.seq (Wp.block (Wp.seq ?_))))
 obtain⟨r2,hr2,h⟩:=aG h
 refine rr [] [] [(3,⟨[(1000000,4)],[(1000000,4)],[.own 1000000 0],[(1000000,137,aH r1.2.2)],.val (.int .u8 r2.1),[(1000000,137,aH r2.2)]⟩)] [2,5,13] [2,5] [(2,.own 2 0),(5,.own 5 0),(13,vb (bif (bif r1.2.2.bI then true else(r2.1 != 0)) then true else(decide (r2.2.aC<(List.length a0:Int)))))] [(2,26,[vi 0,.str [],.val (.slice none 0 0),.val (.slice none 0 0)]),(5,26,qc9 r1.1)] [((r1.2.2.bI==false)=true->rK (aY Tryz.prog) 113 [.own 4 0] [some (137,aH r1.2.2)] ⟨[(1000000,4)],[(1000000,4)],[.own 1000000 0],[(1000000,137,aH r1.2.2)],.val (.int .u8 r2.1),[(1000000,137,aH r2.2)]⟩),((r1.2.2.bI==false)=false->vk [(4,137,aH r1.2.2)] ⟨[(1000000,4)],[(1000000,4)],[.own 1000000 0],[(1000000,137,aH r1.2.2)],.val (.int .u8 r2.1),[(1000000,137,aH r2.2)]⟩)] (ax.cons (fun hg=>⟨(jd n r1.2.2 _ (jC hg hr2)),by kernel_rfl,by kernel_rfl⟩) (ax.cons (fun hg=>by cases zl hg hr2;exact KF (by kernel_rfl)) ax.nil)) ?_
 refine To.ai (cn h (fun h=>?_) (fun h=>?_))
 ·refine Wp.seq (rg [2,3] [2] [(2,.own 2 0),(3,vi 3)] [(2,26,[vi 0,.str [],.val (.slice none 0 0),.val (.slice none 0 0)])] (To.ai (Wp.ret (To.aX (To.aO (To.weak (K':=[(2,.own 2 0),(3,vi 3)]) (L':=[(2,26,[vi 0,.str [],ls [],tn8 []])]) (.cons (.refl _) (.cons (.refl _) .nil)) (.cons (.cons (.refl _) (.cons (.refl _) (.cons (.zero _ _) (.cons (.ig _ _ _) .nil)))) .nil) ?_))))))
  cases h
  exact To.done hΓ (by kernel_rfl)
 ·refine Wp.seq ?_
  obtain⟨r3,hr3,h⟩:=aG h
  refine rc [] 1 [2,5,28] [2,5] [(2,.own 2 0),(5,.own 5 0),(28,vb (!r3))] [(2,26,[vi 0,.str [],.val (.slice none 0 0),.val (.slice none 0 0)]),(5,26,qc9 r1.1)] (wR n r1.1 _ hr3) (To.ai (cn h (fun h=>?_) (fun h=>?_)))
  ·refine Wp.seq (rg [2,3] [2] [(2,.own 2 0),(3,vi 9)] [(2,26,[vi 0,.str [],.val (.slice none 0 0),.val (.slice none 0 0)])] (To.ai (Wp.ret (To.aX (To.aO (To.weak (K':=[(2,.own 2 0),(3,vi 9)]) (L':=[(2,26,[vi 0,.str [],ls [],tn8 []])]) (.cons (.refl _) (.cons (.refl _) .nil)) (.cons (.cons (.refl _) (.cons (.refl _) (.cons (.zero _ _) (.cons (.ig _ _ _) .nil)))) .nil) ?_))))))
   cases h
   exact To.done hΓ (by kernel_rfl)
  ·refine Wp.skip (To.br (To.ai (Wp.seq (rg [2,3] [2] [(2,.own 2 0),(3,vi 0)] [(2,26,qc9 r1.1)] (To.ai (Wp.ret ?_))))))
   cases h
   exact To.done hΓ (by kernel_rfl)
def fN(n:Nat)(v1:Int)(v2:Bs)(v8:Int)(v25:Bool)(b6:af)(b7:af)(b1000000:ak):Option (Int×af) :=
 if v25=true then((gX n v2).bind fun r3 =>
 some (r3.2,r3.1))
 else(some (v8,b7))
theorem qq(n:Nat)(v1:Int)(v2:Bs)(v8:Int)(v25:Bool)(b6:af)(b7:af)(b1000000:ak)(o:Int×af)(h:fN n v1 v2 v8 v25 b6 b7 b1000000=some o)(hQ:To 38 F0 w0 [(0,.own 1000000 0),(1,vi v1),(6,.own 6 0),(7,.own 7 0),(8,vi o.1)] [(6,26,qc9 b6),(7,26,qc9 o.2),(fh b1000000),(iw b1000000)] .normal Q):Wp Tryz.prog 38 F0 w0 [(0,.own 1000000 0),(1,vi v1),(2,.str v2),(6,.own 6 0),(7,.own 7 0),(8,vi v8),(25,vb v25)] [(6,26,qc9 b6),(7,26,qc9 b7),(fh b1000000),(iw b1000000)] (cB (cA (cB (cB (cF Tryz.f57))))) Q:=by
 unfold fN at h
 refine cn h (fun h=>?_) (fun h=>?_)
 ·obtain⟨r3,hr3,h⟩:=aG h
  refine rc [] 1 [0,1,6,7,8] [6,7,504000,1000000] [(0,.own 1000000 0),(1,vi v1),(6,.own 6 0),(7,.own 7 0),(8,vi r3.2)] [(6,26,qc9 b6),(7,26,qc9 r3.1),(fh b1000000),(iw b1000000)] (Ei n v2 _ hr3) (kt [0,1,6,7,8] [6,7,504000,1000000] [(0,.own 1000000 0),(1,vi v1),(6,.own 6 0),(7,.own 7 0),(8,vi r3.2)] [(6,26,qc9 b6),(7,26,qc9 r3.1),(fh b1000000),(iw b1000000)] ?_)
  cases h
  exact hQ
 ·refine Wp.skip (kt [0,1,6,7,8] [6,7,504000,1000000] [(0,.own 1000000 0),(1,vi v1),(6,.own 6 0),(7,.own 7 0),(8,vi v8)] [(6,26,qc9 b6),(7,26,qc9 b7),(fh b1000000),(iw b1000000)] ?_)
  cases h
  exact hQ
def dG(n:Nat)(a1:Int)(a2:Bs)(h0:ak):Option (af×ak) :=
 (dK n a2 false).bind fun r1 =>
 if((!((!(a2==[]))==true)||decide (0<=(0:Int)/\(0:Int)<(List.length a2:Int))))=true then(if((!((((((a2)[Int.toNat 0]?.getD 0).toNat:Int)==91)==false)&&((!(a2==[]))==true))||decide (0<=(0:Int)/\(0:Int)<(List.length a2:Int))))=true then(aP ((bif (!(a2==[])) then(bif ((((a2)[Int.toNat 0]?.getD 0).toNat:Int)==91) then true else((((a2)[Int.toNat 0]?.getD 0).toNat:Int)==123)) else false):Bool) fun x2 =>
 (fN n a1 a2 r1.2 x2 (af.mk 0 [] [] []) r1.1 h0).bind fun o3 =>
 if(o3.1 != 0)=true then(aP (cZ a1 o3.1 h0) fun r4 =>
 some (r4.1,r4.2))
 else(some (o3.2,h0))) else none) else none
theorem mo(n:Nat)(a1:Int)(a2:Bs)(h0:ak)(r:af×ak)(h:dG n a1 a2 h0=some r):aY Tryz.prog 57 [.own 1000000 0,vi a1,.str a2] [(1000000,46,aL 1010000 h0),(1010000,50,[rc5 h0.f_l])] (.agg (qc9 r.1)) [(200,50,[rc5 r.2.f_l]),(1000000,46,aL 200 r.2)]:=by
 unfold dG at h
 refine bo Tryz.f57 rfl fun F0 w0=>?_
 refine nw [0,1,2] [1000000,1010000] [(1010000,504000)] [0,1,2] [504000,1000000] [(0,.own 1000000 0),(1,vi a1),(2,.str a2)] [(504000,50,[rc5 h0.f_l]),(1000000,46,aL 504000 h0)] (Wp.seq (rg [0,1,2,6] [6,504000,1000000] [(0,.own 1000000 0),(1,vi a1),(2,.str a2),(6,.own 6 0)] [(6,26,[vi 0,.str [],.val (.slice none 0 0),.val (.slice none 0 0)]),(504000,50,[rc5 h0.f_l]),(1000000,46,aL 504000 h0)] (To.ai (Wp.seq ?_))))
 obtain⟨r1,hr1,h⟩:=aG h
 refine rc [] 1 [0,1,2,6,7,8] [6,7,504000,1000000] [(0,.own 1000000 0),(1,vi a1),(2,.str a2),(6,.own 6 0),(7,.own 7 0),(8,vi r1.2)] [(6,26,[vi 0,.str [],.val (.slice none 0 0),.val (.slice none 0 0)]),(7,26,qc9 r1.1),(504000,50,[rc5 h0.f_l]),(1000000,46,aL 504000 h0)] (vg n a2 false _ hr1) (To.ai (Wp.seq (Wp.seq ?_)))
 obtain⟨hc5,h⟩:=aK h
 obtain⟨hc6,h⟩:=aK h
 obtain⟨x2,hx2,h⟩:=bV h
 refine r0 [0,1,2,6,7,8,25] [6,7,504000,1000000] [(0,.own 1000000 0),(1,vi a1),(2,.str a2),(6,.own 6 0),(7,.own 7 0),(8,vi r1.2),(25,vb (bif (!(a2==[])) then(bif ((oS a2)==91) then true else((oS a2)==123)) else false))] [(6,26,[vi 0,.str [],.val (.slice none 0 0),.val (.slice none 0 0)]),(7,26,qc9 r1.1),(504000,50,[rc5 h0.f_l]),(1000000,46,aL 504000 h0)] (ax.cons hc5 (ax.cons hc6 ax.nil)) (To.eq (K':=[(0,.own 1000000 0),(1,vi a1),(2,.str a2),(6,.own 6 0),(7,.own 7 0),(8,vi r1.2),(25,vb x2)]) (L':=[(6,26,[vi 0,.str [],.val (.slice none 0 0),.val (.slice none 0 0)]),(7,26,qc9 r1.1),(504000,50,[rc5 h0.f_l]),(1000000,46,aL 504000 h0)]) (by cases hx2;rfl) (by cases hx2;rfl) (To.ai ?_))
 obtain⟨o3,ho3,h⟩:=aG h
 refine kw [0,1,2,6,7,8,25] [6,7,504000,1000000] [(0,.own 1000000 0),(1,vi a1),(2,.str a2),(6,.own 6 0),(7,.own 7 0),(8,vi r1.2),(25,vb x2)] [(6,26,[vi 0,.str [],.val (.slice none 0 0),.val (.slice none 0 0)]),(7,26,qc9 r1.1),(504000,50,[rc5 h0.f_l]),(1000000,46,aL 504000 h0)] (Wp.weak (K':=[(0,.own 1000000 0),(1,vi a1),(2,.str a2),(6,.own 6 0),(7,.own 7 0),(8,vi r1.2),(25,vb x2)]) (L':=[(6,26,[vi 0,.str [],ls [],tn8 []]),(7,26,qc9 r1.1),(504000,50,[rc5 h0.f_l]),(1000000,46,aL 504000 h0)]) (.cons (.refl _) (.cons (.refl _) (.cons (.refl _) (.cons (.refl _) (.cons (.refl _) (.cons (.refl _) (.cons (.refl _) .nil))))))) (.cons (.cons (.refl _) (.cons (.refl _) (.cons (.zero _ _) (.cons (.ig _ _ _) .nil)))) (.cons (.cons (.refl _) (.cons (.refl _) (.cons (.refl _) (.cons (.refl _) .nil)))) (.cons (.cons (.refl _) .nil) (.cons (.cons (.refl _) (.cons (.refl _) (.cons (.refl _) (.cons (.refl _) .nil)))) .nil)))) (qq n a1 a2 r1.2 x2 zx7 r1.1 h0 o3 ho3 (To.ai (Wp.seq (Wp.seq (rg [0,1,6,7,8,32] [6,7,504000,1000000] [(0,.own 1000000 0),(1,vi a1),(6,.own 6 0),(7,.own 7 0),(8,vi o3.1),(32,vb (o3.1 != 0))] [(6,26,[vi 0,.str [],ls [],tn8 []]),(7,26,qc9 o3.2),(504000,50,[rc5 h0.f_l]),(1000000,46,aL 504000 h0)] (To.ai (cn h (fun h=>?_) (fun h=>?_)))))))))
 ·refine Wp.seq ?_
  obtain⟨r4,hr4,h⟩:=bV h
  refine rb [] 3 ⟨[(1000000,1000000),(1010000,504000)],[(200,504000),(1000000,1000000)],[.own 1000000 0,vi a1,vi o3.1],[(1000000,46,aL 1010000 h0),(1010000,50,[rc5 h0.f_l])],.agg (qc9 r4.1),[(200,50,[rc5 r4.2.f_l]),(1000000,46,aL 200 r4.2)]⟩ [6] [6,504000,1000000] [(6,.own 6 0)] [(6,26,qc9 r4.1),(504000,50,[rc5 r4.2.f_l]),(1000000,46,aL 504000 r4.2)] ((ft a1 o3.1 h0 _ hr4)) (To.ai (Wp.ret (To.aO (nt [6] [6,504000,1000000] [(504000,200)] [6] [6,200,1000000] [(6,.own 6 0)] [(6,26,qc9 r4.1),(200,50,[rc5 r4.2.f_l]),(1000000,46,aL 200 r4.2)] ?_))))
  cases h
  exact To.ff hΓ [200,1000000] (by kernel_rfl) (by kernel_rfl)
 ·refine Wp.skip (To.ai (Wp.seq (rg [6] [6,504000,1000000] [(6,.own 6 0)] [(6,26,qc9 o3.2),(504000,50,[rc5 h0.f_l]),(1000000,46,aL 504000 h0)] (To.ai (Wp.ret (nt [6] [6,504000,1000000] [(504000,200)] [6] [6,200,1000000] [(6,.own 6 0)] [(6,26,qc9 o3.2),(200,50,[rc5 h0.f_l]),(1000000,46,aL 200 h0)] ?_))))))
  cases h
  exact To.ff hΓ [200,1000000] (by kernel_rfl) (by kernel_rfl)
def dC(R_block_reader_block__o0_s2:ak->Option (af×ak))(n:Nat)(v1:Int)(v7:Bs)(v8:Bs)(v92:Bool)(b4:af)(b5:af)(b6:av)(b10:af)(b1000000:ak):Option (af×ak) :=
 if v92=true then((dG n b6.eG v8 b1000000).bind fun r6 =>
 some (r6.1,r6.2))
 else((eF R_block_reader_block__o0_s2 n v1 true b1000000).bind fun r7 =>
 some (r7.1,r7.2))
end Go.Proofs.YtefojkdckfidcaaGreatDoor.M
