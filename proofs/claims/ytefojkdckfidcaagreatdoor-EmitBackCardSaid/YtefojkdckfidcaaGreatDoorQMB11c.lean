import Derived.Test.YtefojkdckfidcaaGreatDoorQMB11b
set_option linter.all false
namespace Go.Proofs.YtefojkdckfidcaaGreatDoor.M
open Go.RowKit Go.Proofs.YtefojkdckfidcaaGreatDoor.RX
set_option maxRecDepth 100000
theorem mC(n:Nat)(h0:ai)(r:Bs×ai)(h:dR n h0=some r):aZ Tryz.prog 128 [.own 1000000 0] [(1000000,137,aI h0)] (.str r.1) [(1000000,137,aI r.2)]:=by
 unfold dR at h
 refine bo Tryz.f128 rfl fun F0 w0=>?_
 refine Wp.seq (rg [0] [1000000] [(0,.own 1000000 0)] [(1000000,137,aI h0)] (To.ah (Wp.seq ?_)))
 obtain⟨r1,hr1,h⟩:=aF h
 refine Wp.eH hm hΓ [(8,.tup [.str r1.1,vi r1.2.1,vi r1.2.2])] [0,3,4,5] [1000000] (K':=[(0,.own 1000000 0),(3,.str r1.1),(4,vi r1.2.1),(5,vi r1.2.2)]) (L':=[(1000000,137,aI h0)]) (ob:=[(true=true->CX Tryz.prog 31 [.str h0.f_s,vi h0.aC] (.tup [.str r1.1,vi r1.2.1,vi r1.2.2]))]) (by kernel_rfl) (au.cons (fun _=>cx (lL n h0.f_s h0.aC _ hr1)) au.nil) (To.ah (Wp.seq (Wp.seq (rg [0,3,4,20] [1000000] [(0,.own 1000000 0),(3,.str r1.1),(4,vi r1.2.1),(20,vb (r1.2.2 != 0))] [(1000000,137,aI h0)] (To.ah (cn h (fun h=>?_) (fun h=>?_)))))))
 ·refine Wp.seq (rg [] [1000000] [] [(1000000,137,[.str h0.f_s,vi h0.aC,vb true])] (To.ah (Wp.seq (rg [2] [1000000] [(2,.str [])] [(1000000,137,[.str h0.f_s,vi h0.aC,vb true])] (To.ah (Wp.ret (To.aO ?_)))))))
  cases h
  exact To.fl hΓ [1000000] (by kernel_rfl) (by kernel_rfl)
 ·refine Wp.skip (To.ah (Wp.seq (rg [3] [1000000] [(3,.str r1.1)] [(1000000,137,[.str h0.f_s,vi r1.2.1,vb h0.bT])] (To.ah (Wp.seq (rg [2] [1000000] [(2,.str r1.1)] [(1000000,137,[.str h0.f_s,vi r1.2.1,vb h0.bT])] (To.ah (Wp.ret ?_))))))))
  cases h
  exact To.fl hΓ [1000000] (by kernel_rfl) (by kernel_rfl)
def fe(n:Nat)(v3:Int):Nat->ai->Option (ai)
 |0,_=>none
 |k+1,b1000000=>if(decide (b1000000.aC<(List.length b1000000.f_s:Int)))=true then(if(decide (0<=b1000000.aC/\b1000000.aC<(List.length b1000000.f_s:Int)))=true then(if((!((((IntKind.wrap .i64 (b1000000.aC+1))==(List.length b1000000.f_s:Int))==false)&&((((((b1000000.f_s)[Int.toNat b1000000.aC]?.getD 0).toNat:Int)==58)==true)&&((decide ((Lib.indexByte ([44,91,93,123,125]:Bs) (Int.toNat (((b1000000.f_s)[Int.toNat b1000000.aC]?.getD 0).toNat:Int)).toUInt8)>=0))==false)))||decide (0<=(IntKind.wrap .i64 (b1000000.aC+1))/\(IntKind.wrap .i64 (b1000000.aC+1))<(List.length b1000000.f_s:Int))))=true then(aR ((bif (decide ((Lib.indexByte ([44,91,93,123,125]:Bs) (Int.toNat (((b1000000.f_s)[Int.toNat b1000000.aC]?.getD 0).toNat:Int)).toUInt8)>=0)) then true else(bif ((((b1000000.f_s)[Int.toNat b1000000.aC]?.getD 0).toNat:Int)==58) then(bif ((IntKind.wrap .i64 (b1000000.aC+1))==(List.length b1000000.f_s:Int)) then true else(decide ((Lib.indexByte ([32,44,91,93,123,125]:Bs) (Int.toNat (((b1000000.f_s)[Int.toNat (IntKind.wrap .i64 (b1000000.aC+1))]?.getD 0).toNat:Int)).toUInt8)>=0))) else false)):Bool) fun x1 =>
 if x1=true then some b1000000
 else(fe n v3 k (ai.mk b1000000.f_s (IntKind.wrap .i64 (b1000000.aC+1)) b1000000.bT))) else none) else none)
 else some b1000000
abbrev EV(x0:ai):=(Lib.indexByte ([44,91,93,123,125]:Bs) (Int.toNat (((x0.f_s)[Int.toNat x0.aC]?.getD 0).toNat:Int)).toUInt8)
abbrev Ns(x0:ai):=(Lib.indexByte ([32,44,91,93,123,125]:Bs) (Int.toNat (((x0.f_s)[Int.toNat (IntKind.wrap .i64 (x0.aC+1))]?.getD 0).toNat:Int)).toUInt8)
abbrev Fb(x0:ai):=(((x0.f_s)[Int.toNat x0.aC]?.getD 0).toNat:Int)
variable {F0:Fz} {w0:Pt Tryz.prog} {Q:Exit->Act->World->Prop}
theorem qR(n:Nat)(v3:Int)(k:Nat):∀(b1000000:ai)(o:ai),fe n v3 k b1000000=some o->To 80 F0 w0 [(0,.own 1000000 0),(3,vi v3)] [(1000000,137,aI o)] (.exit 0) Q->WL Tryz.prog 80 F0 w0 [(0,.own 1000000 0),(3,vi v3)] [(1000000,137,aI b1000000)] (cI (cI (cA (cB (cB (cF Tryz.f129)))))) Q:=by
 induction k with
 |zero=>intro b1000000 o h;cases h
 |succ k ih =>
  intro b1000000 o h hQ
  rw[fe] at h
  refine WL.round (Wp.seq (Wp.seq (Wp.eH hm hΓ [] [0,3,18] [1000000] (K':=[(0,.own 1000000 0),(3,vi v3),(18,vb (decide (b1000000.aC<(vR b1000000))))]) (L':=[(1000000,137,aI b1000000)]) (ob:=[]) (by kernel_rfl) au.nil (To.ah (cn h (fun h=>?_) (fun h=>?_))))))
  ·refine Wp.skip (To.ah (Wp.seq (Wp.block (Wp.seq ?_))))
   obtain⟨hc3,h⟩:=aL h
   refine Wp.eH hm hΓ [] [0,3,4] [1000000] (K':=[(0,.own 1000000 0),(3,vi v3),(4,.val (.int .u8 (Fb b1000000)))]) (L':=[(1000000,137,aI b1000000)]) (ob:=[(decide (0<=b1000000.aC/\b1000000.aC<(vR b1000000)))=true]) (by kernel_rfl) (au.cons hc3 au.nil) (To.ah (Wp.seq ?_))
   obtain⟨hc2,h⟩:=aL h
   obtain⟨x1,hx1,h⟩:=bI h
   refine Wp.eH hm hΓ [(1,vi (EV b1000000)),(29,vi (Ns b1000000))] [0,3,68] [1000000] (K':=[(0,.own 1000000 0),(3,vi v3),(68,vb (bif (decide ((EV b1000000)>=0)) then true else(bif ((Fb b1000000)==58) then(bif ((CJ b1000000)==(vR b1000000)) then true else(decide ((Ns b1000000)>=0))) else false)))]) (L':=[(1000000,137,aI b1000000)]) (ob:=[(true=true->CX Tryz.prog 66 [.str [44,91,93,123,125],.val (.int .u8 (Fb b1000000))] (vi (EV b1000000))),(!((((CJ b1000000)==(vR b1000000))==false)&&((((Fb b1000000)==58)==true)&&((decide ((EV b1000000)>=0))==false)))||decide (0<=(CJ b1000000)/\(CJ b1000000)<(vR b1000000)))=true,(((((CJ b1000000)==(vR b1000000))==false)&&((((Fb b1000000)==58)==true)&&((decide ((EV b1000000)>=0))==false)))=true->CX Tryz.prog 66 [.str [32,44,91,93,123,125],.val (.int .u8 (((b1000000.f_s)[Int.toNat (CJ b1000000)]?.getD 0).toNat:Int))] (vi (Ns b1000000)))]) (by kernel_rfl) (au.cons (fun _=>cx (Sh.lN)) (au.cons hc2 (au.cons (fun _=>cx (Sh.lN)) au.nil))) (To.eq (K':=[(0,.own 1000000 0),(3,vi v3),(68,vb x1)]) (L':=[(1000000,137,aI b1000000)]) (by cases hx1;rfl) (by cases hx1;rfl) (To.ah (cn h (fun h=>?_) (fun h=>?_))))
   ·refine Wp.exit (To.xZ (by decide) (To.dE (To.dE (kt [0,3] [1000000] [(0,.own 1000000 0),(3,vi v3)] [(1000000,137,aI b1000000)] ?_))))
    cases h
    exact hQ
   ·refine Wp.skip (To.bf (To.ah (rg [0,3] [1000000] [(0,.own 1000000 0),(3,vi v3)] [(Ac b1000000)] (kt [0,3] [1000000] [(0,.own 1000000 0),(3,vi v3)] [(Ac b1000000)] (To.again ?_)))))
    exact ih (Jk b1000000) _ h hQ
  ·refine Wp.exit (To.dE (To.dE (kt [0,3] [1000000] [(0,.own 1000000 0),(3,vi v3)] [(1000000,137,aI b1000000)] ?_)))
   cases h
   exact hQ
def fV(n:Nat)(h0:ai):Option (Bs×ai) :=
 (fe n h0.aC n h0).bind fun o1 =>
 if(decide (0<=o1.aC/\o1.aC<=(List.length o1.f_s:Int)))=true then(if(decide (0<=h0.aC/\h0.aC<=o1.aC))=true then(if(decide (List.length (List.take (Int.toNat o1.aC-Int.toNat h0.aC) (List.drop (Int.toNat h0.aC) o1.f_s))<4294967281))=true then(some ((Lib.trimRightB (List.take (Int.toNat o1.aC-Int.toNat h0.aC) (List.drop (Int.toNat h0.aC) o1.f_s)) 32),o1)) else none) else none) else none
theorem mH(n:Nat)(h0:ai)(r:Bs×ai)(h:fV n h0=some r):aZ Tryz.prog 129 [.own 1000000 0] [(1000000,137,aI h0)] (.str r.1) [(1000000,137,aI r.2)]:=by
 unfold fV at h
 refine bo Tryz.f129 rfl fun F0 w0=>?_
 refine Wp.seq (rg [0] [1000000] [(0,.own 1000000 0)] [(1000000,137,aI h0)] (To.ah (Wp.seq (rg [0,3] [1000000] [(0,.own 1000000 0),(3,vi h0.aC)] [(1000000,137,aI h0)] (To.ah (Wp.seq (Wp.block ?_)))))))
 obtain⟨o1,ho1,h⟩:=aF h
 refine kw [0,3] [1000000] [(0,.own 1000000 0),(3,vi h0.aC)] [(1000000,137,aI h0)] (Wp.jB (qR n h0.aC n h0 o1 ho1 (To.iI (To.ah (Wp.seq ?_)))))
 obtain⟨hc3,h⟩:=aL h
 obtain⟨hc4,h⟩:=aL h
 obtain⟨u2,h⟩:=aL h
 refine Wp.eH hm hΓ [(10,.str (Lib.trimRightB (List.take (Int.toNat o1.aC-Int.toNat h0.aC) (List.drop (Int.toNat h0.aC) o1.f_s)) 32))] [2] [1000000] (K':=[(2,.str (Lib.trimRightB (List.take (Int.toNat o1.aC-Int.toNat h0.aC) (List.drop (Int.toNat h0.aC) o1.f_s)) 32))]) (L':=[(1000000,137,aI o1)]) (ob:=[(decide (0<=o1.aC/\o1.aC<=(List.length o1.f_s:Int)))=true,(decide (0<=h0.aC/\h0.aC<=o1.aC))=true,(true=true->CX Tryz.prog 139 [.str (List.take (Int.toNat o1.aC-Int.toNat h0.aC) (List.drop (Int.toNat h0.aC) o1.f_s)),.str [32]] (.str (Lib.trimRightB (List.take (Int.toNat o1.aC-Int.toNat h0.aC) (List.drop (Int.toNat h0.aC) o1.f_s)) 32)))]) (by kernel_rfl) (au.cons hc3 (au.cons hc4 (au.cons (fun _=>cx (Sh.EC (by decide) u2)) au.nil))) (To.ah (Wp.ret ?_))
 cases h
 exact To.fl hΓ [1000000] (by kernel_rfl) (by kernel_rfl)
def fH(n:Nat)(v12:Bool)(b1000000:ai):Option (Bs×ai) :=
 if v12=true then((dR n b1000000).bind fun r2 =>
 some (r2.1,r2.2))
 else((fV n b1000000).bind fun r3 =>
 (kU n r3.1).bind fun r4 =>
 if(!r4)=true then(some (r3.1,(ai.mk r3.2.f_s r3.2.aC true)))
 else(some (r3.1,r3.2)))
theorem rX(n:Nat)(v12:Bool)(b1000000:ai)(o:Bs×ai)(h:fH n v12 b1000000=some o)(hQ:To 36 F0 w0 [(0,.own 1000000 0),(3,.str o.1)] [(1000000,137,aI o.2)] .normal Q):Wp Tryz.prog 36 F0 w0 [(0,.own 1000000 0),(12,vb v12)] [(1000000,137,aI b1000000)] (cB (cA (cB (cB (cF Tryz.f138))))) Q:=by
 unfold fH at h
 refine cn h (fun h=>?_) (fun h=>?_)
 ·obtain⟨r2,hr2,h⟩:=aF h
  refine rb [] 1 ⟨[(1000000,1000000)],[(1000000,1000000)],[.own 1000000 0],[(1000000,137,aI b1000000)],.str r2.1,[(1000000,137,aI r2.2)]⟩ [0,3] [1000000] [(0,.own 1000000 0),(3,.str r2.1)] [(1000000,137,aI r2.2)] ((mC n b1000000 _ hr2)) (kt [0,3] [1000000] [(0,.own 1000000 0),(3,.str r2.1)] [(1000000,137,aI r2.2)] ?_)
  cases h
  exact hQ
 ·refine Wp.seq ?_
  obtain⟨r3,hr3,h⟩:=aF h
  refine rb [] 1 ⟨[(1000000,1000000)],[(1000000,1000000)],[.own 1000000 0],[(1000000,137,aI b1000000)],.str r3.1,[(1000000,137,aI r3.2)]⟩ [0,3] [1000000] [(0,.own 1000000 0),(3,.str r3.1)] [(1000000,137,aI r3.2)] ((mH n b1000000 _ hr3)) (To.ah (Wp.seq ?_))
  obtain⟨r4,hr4,h⟩:=aF h
  refine rc [] 1 [0,3,19] [1000000] [(0,.own 1000000 0),(3,.str r3.1),(19,vb (!r4))] [(1000000,137,aI r3.2)] (tq n r3.1 _ hr4) (To.ah (cn h (fun h=>?_) (fun h=>?_)))
  ·refine rg [0,3] [1000000] [(0,.own 1000000 0),(3,.str r3.1)] [(1000000,137,[.str r3.2.f_s,vi r3.2.aC,vb true])] (kt [0,3] [1000000] [(0,.own 1000000 0),(3,.str r3.1)] [(1000000,137,[.str r3.2.f_s,vi r3.2.aC,vb true])] ?_)
   cases h
   exact hQ
  ·refine Wp.skip (kt [0,3] [1000000] [(0,.own 1000000 0),(3,.str r3.1)] [(1000000,137,aI r3.2)] ?_)
   cases h
   exact hQ
def eU(n:Nat)(h0:ai):Option (Bs×ai) :=
 (dP n h0).bind fun r1 =>
 (fH n (bif (r1.1==34) then true else(r1.1==39)) r1.2).bind fun o2 =>
 ((if(o2.2.bT==false)=true then bq n 58 o2.2 else some (false,o2.2))).bind fun r3 =>
 some (o2.1,(ai.mk r3.2.f_s r3.2.aC (bif o2.2.bT then true else(!r3.1))))
theorem nO(n:Nat)(h0:ai)(r:Bs×ai)(h:eU n h0=some r):aZ Tryz.prog 138 [.own 1000000 0] [(1000000,137,aI h0)] (.str r.1) [(1000000,137,aI r.2)]:=by
 unfold eU at h
 refine bo Tryz.f138 rfl fun F0 w0=>?_
 refine Wp.seq (rg [0] [1000000] [(0,.own 1000000 0)] [(1000000,137,aI h0)] (To.ah (Wp.seq ?_)))
 obtain⟨r1,hr1,h⟩:=aF h
 refine rb [] 1 ⟨[(1000000,1000000)],[(1000000,1000000)],[.own 1000000 0],[(1000000,137,aI h0)],.val (.int .u8 r1.1),[(1000000,137,aI r1.2)]⟩ [0,4] [1000000] [(0,.own 1000000 0),(4,.val (.int .u8 r1.1))] [(1000000,137,aI r1.2)] ((jd n h0 _ hr1)) (To.ah (Wp.seq (Wp.seq (rg [0,12] [1000000] [(0,.own 1000000 0),(12,vb (bif (r1.1==34) then true else(r1.1==39)))] [(1000000,137,aI r1.2)] (To.ah ?_)))))
 obtain⟨o2,ho2,h⟩:=aF h
 refine kw [0,12] [1000000] [(0,.own 1000000 0),(12,vb (bif (r1.1==34) then true else(r1.1==39)))] [(1000000,137,aI r1.2)] (rX n (bif (r1.1==34) then true else(r1.1==39)) r1.2 o2 ho2 (To.ah (Wp.seq ?_)))
 obtain⟨r3,hr3,h⟩:=aF h
 refine rr [] [] [(7,⟨[(1000000,1000000)],[(1000000,1000000)],[.own 1000000 0,.val (.int .u8 58)],[(1000000,137,aI o2.2)],vb r3.1,[(1000000,137,aI r3.2)]⟩)] [3] [1000000] [(3,.str o2.1)] [(1000000,137,[.str r3.2.f_s,vi r3.2.aC,vb (bif o2.2.bT then true else(!r3.1))])] [((o2.2.bT==false)=true->rO (aZ Tryz.prog) 137 [.own 1000000 0,.val (.int .u8 58)] [some (137,aI o2.2)] ⟨[(1000000,1000000)],[(1000000,1000000)],[.own 1000000 0,.val (.int .u8 58)],[(1000000,137,aI o2.2)],vb r3.1,[(1000000,137,aI r3.2)]⟩),((o2.2.bT==false)=false->uX [(1000000,137,aI o2.2)] ⟨[(1000000,1000000)],[(1000000,1000000)],[.own 1000000 0,.val (.int .u8 58)],[(1000000,137,aI o2.2)],vb r3.1,[(1000000,137,aI r3.2)]⟩)] (au.cons (fun hg=>⟨(cH n 58 o2.2 _ (jl hg hr3)),by kernel_rfl,by kernel_rfl⟩) (au.cons (fun hg=>by cases zo hg hr3;exact MP (by kernel_rfl)) au.nil)) ?_
 refine To.ah (Wp.seq (rg [2] [1000000] [(2,.str o2.1)] [(1000000,137,[.str r3.2.f_s,vi r3.2.aC,vb (bif o2.2.bT then true else(!r3.1))])] (To.ah (Wp.ret ?_))))
 cases h
 exact To.fl hΓ [1000000] (by kernel_rfl) (by kernel_rfl)
mutual
def bV(R_flow_reader_value__o0:ai->Option (af×Bool×ai))(n:Nat):Nat->af->ai->Option (af×ai)
 |0,_,_=>none
 |k+1,b2,b1000000=>(bq n 125 (ai.mk b1000000.f_s (IntKind.wrap .i64 (b1000000.aC+1)) b1000000.bT)).bind fun r1 =>
 if r1.1=true then(some ((af.mk 3 [] [] []),r1.2))
 else((eU n r1.2).bind fun r2 =>
 aR ((bif r2.2.bT then true else(decide (((aW (dJ ([]:List (MK×Int)) (.inl r2.1) (IntKind.wrap .i64 (((aW ([]:List (MK×Int)) (.inl r2.1)).getD 0)+1))) (.inl r2.1)).getD 0)>1))):Bool) fun x3 =>
 if x3=true then(some ((af.mk 3 [] [] []),(ai.mk r2.2.f_s r2.2.aC true)))
 else((R_flow_reader_value__o0 r2.2).bind fun r4 =>
 if(decide ((List.length ([]:Ls)+List.length ([r2.1]:Ls))*(16+1)<=limit))=true then(if(decide ((List.length ([]:List (af))+List.length ([r4.1]:List (af)))*(72+1)<=limit))=true then(if r4.2.2.bT=true then(some ((af.mk 3 [] (([]:Ls)++([r2.1]:Ls)) (([]:List (af))++([r4.1]:List (af)))),r4.2.2))
 else((bq n 44 r4.2.2).bind fun r5 =>
 if r5.1=true then(dh R_flow_reader_value__o0 n k b2 (af.mk 3 [] (([]:Ls)++([r2.1]:Ls)) (([]:List (af))++([r4.1]:List (af)))) (dJ ([]:List (MK×Int)) (.inl r2.1) (IntKind.wrap .i64 (((aW ([]:List (MK×Int)) (.inl r2.1)).getD 0)+1))) r5.2)
 else((bq n 125 r5.2).bind fun r6 =>
 some ((af.mk 3 [] (([]:Ls)++([r2.1]:Ls)) (([]:List (af))++([r4.1]:List (af)))),(ai.mk r6.2.f_s r6.2.aC (!r6.1)))))) else none) else none))
def dh(R_flow_reader_value__o0:ai->Option (af×Bool×ai))(n:Nat):Nat->af->af->(List (MK×Int))->ai->Option (af×ai)
 |0,_,_,_,_=>none
 |k+1,b2,b3,b9,b1000000=>(eU n b1000000).bind fun r1 =>
 aR ((bif r1.2.bT then true else(decide (((aW (dJ b9 (.inl r1.1) (IntKind.wrap .i64 (((aW b9 (.inl r1.1)).getD 0)+1))) (.inl r1.1)).getD 0)>1))):Bool) fun x2 =>
 if x2=true then(some (b3,(ai.mk r1.2.f_s r1.2.aC true)))
 else((R_flow_reader_value__o0 r1.2).bind fun r3 =>
 if(decide ((List.length b3.ay+List.length ([r1.1]:Ls))*(16+1)<=limit))=true then(if(decide ((List.length b3.aj+List.length ([r3.1]:List (af)))*(72+1)<=limit))=true then(if r3.2.2.bT=true then(some ((af.mk b3.aG b3.av (b3.ay++([r1.1]:Ls)) (b3.aj++([r3.1]:List (af)))),r3.2.2))
 else((bq n 44 r3.2.2).bind fun r4 =>
 if r4.1=true then(dh R_flow_reader_value__o0 n k b2 (af.mk b3.aG b3.av (b3.ay++([r1.1]:Ls)) (b3.aj++([r3.1]:List (af)))) (dJ b9 (.inl r1.1) (IntKind.wrap .i64 (((aW b9 (.inl r1.1)).getD 0)+1))) r4.2)
 else((bq n 125 r4.2).bind fun r5 =>
 some ((af.mk b3.aG b3.av (b3.ay++([r1.1]:Ls)) (b3.aj++([r3.1]:List (af)))),(ai.mk r5.2.f_s r5.2.aC (!r5.1)))))) else none) else none)
end
abbrev gU(l:List (MK×Int)):D:=.fL none false (α:=Int) 0 um l
abbrev dQ(k0:Nat)(k1:Nat)(x:af):List D:=[vi x.aG,.str x.av,.row k0,.row k1]
theorem qX(R_flow_reader_value__o0:ai->Option (af×Bool×ai))(hR_flow_reader_value__o0:zU R_flow_reader_value__o0)(n:Nat)(k:Nat):(∀(b2:af)(b1000000:ai)(o:af×ai),bV R_flow_reader_value__o0 n k b2 b1000000=some o->To 71 F0 w0 [(2,.own 2 0)] [(2,26,dQ 4122 4123 o.1),(4122,9,[rc1 o.1.ay]),(4123,26,[aQ o.1.aj]),(1000000,137,aI o.2)] .ret Q->WG Tryz.prog 71 F0 w0 [(0,.own 1000000 0),(2,.own 2 0)] [(2,26,qc6 b2),(1000000,137,aI b1000000)] (cI (cB (cF Tryz.f127))) (cI (cB (cF Tryz.f127))) Q) /\
 (∀(b2:af)(b3:af)(b9:List (MK×Int))(b1000000:ai)(o:af×ai),dh R_flow_reader_value__o0 n k b2 b3 b9 b1000000=some o->To 71 F0 w0 [(2,.own 2 0)] [(2,26,dQ 4122 4123 o.1),(4122,9,[rc1 o.1.ay]),(4123,26,[aQ o.1.aj]),(1000000,137,aI o.2)] .ret Q->WG Tryz.prog 71 F0 w0 [(0,.own 1000000 0),(2,.own 2 0),(3,.own 3 0),(4,.mp 9)] [(2,26,qc6 b2),(3,26,dQ 4182 4183 b3),(9,156,[gU b9]),(4182,9,[rc1 b3.ay]),(4183,26,[aQ b3.aj]),(1000000,137,aI b1000000)] (cI (cB (cF Tryz.f127))) (cG 0 (cB (cF Tryz.f127))) Q):=by
 induction k with
 |zero=>exact⟨(by intro b2 b1000000 o h;cases h),(by intro b2 b3 b9 b1000000 o h;cases h)⟩
 |succ k ih =>
  refine⟨?_,?_⟩
  ·intro b2 b1000000 o h hQ
   rw[bV] at h
   refine WG.pass (Wp.seq (rg [0,2,3] [2,3,1000000] [(0,.own 1000000 0),(2,.own 2 0),(3,.own 3 0)] [(2,26,qc6 b2),(3,26,[vi 3,.str [],.val (.slice none 0 0),.val (.slice none 0 0)]),(1000000,137,aI b1000000)] (To.ah (Wp.seq (rr [] [(0,gU [])] [] [0,2,3,4] [2,3,9,1000000] [(0,.own 1000000 0),(2,.own 2 0),(3,.own 3 0),(4,.mp 9)] [(2,26,qc6 b2),(3,26,[vi 3,.str [],.val (.slice none 0 0),.val (.slice none 0 0)]),(9,156,[gU []]),(1000000,137,aI b1000000)] [(yC false um)] (au.cons (⟨fun _=>rfl,fun _ _=>rfl⟩) au.nil) ?_)))))
   refine To.ah (Wp.seq (rg [0,2,3,4] [2,3,9,1000000] [(0,.own 1000000 0),(2,.own 2 0),(3,.own 3 0),(4,.mp 9)] [(2,26,qc6 b2),(3,26,[vi 3,.str [],.val (.slice none 0 0),.val (.slice none 0 0)]),(9,156,[gU []]),(Ac b1000000)] (To.ah (Wp.seq (Wp.seq ?_)))))
   obtain⟨r1,hr1,h⟩:=aF h
   refine rb [] 1 ⟨[(1000000,1000000)],[(1000000,1000000)],[.own 1000000 0,.val (.int .u8 125)],[(Ac b1000000)],vb r1.1,[(1000000,137,aI r1.2)]⟩ [0,2,3,4,18] [2,3,9,1000000] [(0,.own 1000000 0),(2,.own 2 0),(3,.own 3 0),(4,.mp 9),(18,vb r1.1)] [(2,26,qc6 b2),(3,26,[vi 3,.str [],.val (.slice none 0 0),.val (.slice none 0 0)]),(9,156,[gU []]),(1000000,137,aI r1.2)] ((cH n 125 (Jk b1000000) _ hr1)) (To.ah (cn h (fun h=>?_) (fun h=>?_)))
   ·refine Wp.seq (rg [2] [2,1000000] [(2,.own 2 0)] [(2,26,[vi 3,.str [],.val (.slice none 0 0),.val (.slice none 0 0)]),(1000000,137,aI r1.2)] (To.ah (Wp.ret (To.aO (To.kF (.inr (.inl rfl)) (kt [2] [2,1000000] [(2,.own 2 0)] [(2,26,[vi 3,.str [],.val (.slice none 0 0),.val (.slice none 0 0)]),(1000000,137,aI r1.2)] (To.pre (St.nj 2 2 4122 9 (dT _) (by decide) (by kernel_rfl) (L':=[(2,26,[vi 3,.str [],.row 4122,.val (.slice none 0 0)]),(1000000,137,aI r1.2)]) (by kernel_rfl)) (kt [2] [2,4122,1000000] [(2,.own 2 0)] [(2,26,[vi 3,.str [],.row 4122,.val (.slice none 0 0)]),(4122,9,[rc1 []]),(1000000,137,aI r1.2)] (To.pre (St.nj 2 3 4123 26 (bU _) (by decide) (by kernel_rfl) (L':=[(2,26,[vi 3,.str [],.row 4122,.row 4123]),(4122,9,[rc1 []]),(1000000,137,aI r1.2)]) (by kernel_rfl)) (kt [2] [2,4122,4123,1000000] [(2,.own 2 0)] [(2,26,[vi 3,.str [],.row 4122,.row 4123]),(4122,9,[rc1 []]),(4123,26,[aQ []]),(1000000,137,aI r1.2)] ?_))))))))))
    cases h
    exact hQ
   ·refine Wp.skip (To.ah (Wp.seq (kw [0,2,3,4,18] [2,3,9,1000000] [(0,.own 1000000 0),(2,.own 2 0),(3,.own 3 0),(4,.mp 9),(18,vb r1.1)] [(2,26,qc6 b2),(3,26,[vi 3,.str [],.val (.slice none 0 0),.val (.slice none 0 0)]),(9,156,[gU []]),(1000000,137,aI r1.2)] (Wp.pre (St.nj 3 2 4182 9 (dT _) (by decide) (by kernel_rfl) (L':=[(2,26,qc6 b2),(3,26,[vi 3,.str [],.row 4182,.val (.slice none 0 0)]),(9,156,[gU []]),(1000000,137,aI r1.2)]) (by kernel_rfl)) (kw [0,2,3,4,18] [2,3,9,4182,1000000] [(0,.own 1000000 0),(2,.own 2 0),(3,.own 3 0),(4,.mp 9),(18,vb r1.1)] [(2,26,qc6 b2),(3,26,[vi 3,.str [],.row 4182,.val (.slice none 0 0)]),(9,156,[gU []]),(4182,9,[rc1 []]),(1000000,137,aI r1.2)] (Wp.pre (St.nj 3 3 4183 26 (bU _) (by decide) (by kernel_rfl) (L':=[(2,26,qc6 b2),(3,26,[vi 3,.str [],.row 4182,.row 4183]),(9,156,[gU []]),(4182,9,[rc1 []]),(1000000,137,aI r1.2)]) (by kernel_rfl)) (kw [0,2,3,4,18] [2,3,9,4182,4183,1000000] [(0,.own 1000000 0),(2,.own 2 0),(3,.own 3 0),(4,.mp 9),(18,vb r1.1)] [(2,26,qc6 b2),(3,26,[vi 3,.str [],.row 4182,.row 4183]),(9,156,[gU []]),(4182,9,[rc1 []]),(4183,26,[aQ []]),(1000000,137,aI r1.2)] (Wp.label (To.ah (Wp.seq ?_))))))))))
    obtain⟨r2,hr2,h⟩:=aF h
    refine rb [] 1 ⟨[(1000000,1000000)],[(1000000,1000000)],[.own 1000000 0],[(1000000,137,aI r1.2)],.str r2.1,[(1000000,137,aI r2.2)]⟩ [0,2,3,4,5] [2,3,9,4182,4183,1000000] [(0,.own 1000000 0),(2,.own 2 0),(3,.own 3 0),(4,.mp 9),(5,.str r2.1)] [(2,26,qc6 b2),(3,26,[vi 3,.str [],.row 4182,.row 4183]),(9,156,[gU []]),(4182,9,[rc1 []]),(4183,26,[aQ []]),(1000000,137,aI r2.2)] ((nO n r1.2 _ hr2)) (To.ah (Wp.seq (Wp.seq (rr [] [(2,vi ((aW ([]:List (MK×Int)) (.inl r2.1)).getD 0)),(4,gU (dJ ([]:List (MK×Int)) (.inl r2.1) (IntKind.wrap .i64 (((aW ([]:List (MK×Int)) (.inl r2.1)).getD 0)+1))))] [] [0,2,3,4,5] [2,3,9,4182,4183,1000000] [(0,.own 1000000 0),(2,.own 2 0),(3,.own 3 0),(4,.mp 9),(5,.str r2.1)] [(2,26,qc6 b2),(3,26,[vi 3,.str [],.row 4182,.row 4183]),(9,156,[gU (dJ ([]:List (MK×Int)) (.inl r2.1) (IntKind.wrap .i64 (((aW ([]:List (MK×Int)) (.inl r2.1)).getD 0)+1)))]),(4182,9,[rc1 []]),(4183,26,[aQ []]),(1000000,137,aI r2.2)] [(true=true->uf false um ([]:List (MK×Int)) (.inl r2.1) [vi 0] (vi ((aW ([]:List (MK×Int)) (.inl r2.1)).getD 0))),(∃l':List (MK×Int),(gU (dJ ([]:List (MK×Int)) (.inl r2.1) (IntKind.wrap .i64 (((aW ([]:List (MK×Int)) (.inl r2.1)).getD 0)+1))):D)=gU l'/\Ax um ([]:List (MK×Int)) (.inl r2.1) [vi (IntKind.wrap .i64 (((aW ([]:List (MK×Int)) (.inl r2.1)).getD 0)+1))] l')] (au.cons (fun _=>⟨0,bG.of_eq (by kernel_rfl),by kernel_rfl⟩) (au.cons (⟨_,rfl,(IntKind.wrap .i64 (((aW ([]:List (MK×Int)) (.inl r2.1)).getD 0)+1)),bG.of_eq (by kernel_rfl),rfl⟩) au.nil)) ?_))))
    refine To.ah (Wp.seq ?_)
    obtain⟨x3,hx3,h⟩:=bI h
    refine rr [] [(7,vi ((aW (dJ ([]:List (MK×Int)) (.inl r2.1) (IntKind.wrap .i64 (((aW ([]:List (MK×Int)) (.inl r2.1)).getD 0)+1))) (.inl r2.1)).getD 0))] [] [0,2,3,4,5,35] [2,3,9,4182,4183,1000000] [(0,.own 1000000 0),(2,.own 2 0),(3,.own 3 0),(4,.mp 9),(5,.str r2.1),(35,vb (bif r2.2.bT then true else(decide (((aW (dJ ([]:List (MK×Int)) (.inl r2.1) (IntKind.wrap .i64 (((aW ([]:List (MK×Int)) (.inl r2.1)).getD 0)+1))) (.inl r2.1)).getD 0)>1))))] [(2,26,qc6 b2),(3,26,[vi 3,.str [],.row 4182,.row 4183]),(9,156,[gU (dJ ([]:List (MK×Int)) (.inl r2.1) (IntKind.wrap .i64 (((aW ([]:List (MK×Int)) (.inl r2.1)).getD 0)+1)))]),(4182,9,[rc1 []]),(4183,26,[aQ []]),(1000000,137,aI r2.2)] [((r2.2.bT==false)=true->uf false um (dJ ([]:List (MK×Int)) (.inl r2.1) (IntKind.wrap .i64 (((aW ([]:List (MK×Int)) (.inl r2.1)).getD 0)+1))) (.inl r2.1) [vi 0] (vi ((aW (dJ ([]:List (MK×Int)) (.inl r2.1) (IntKind.wrap .i64 (((aW ([]:List (MK×Int)) (.inl r2.1)).getD 0)+1))) (.inl r2.1)).getD 0)))] (au.cons (fun _=>⟨0,bG.of_eq (by kernel_rfl),by kernel_rfl⟩) au.nil) ?_
    refine To.eq (K':=[(0,.own 1000000 0),(2,.own 2 0),(3,.own 3 0),(4,.mp 9),(5,.str r2.1),(35,vb x3)]) (L':=[(2,26,qc6 b2),(3,26,[vi 3,.str [],.row 4182,.row 4183]),(9,156,[gU (dJ ([]:List (MK×Int)) (.inl r2.1) (IntKind.wrap .i64 (((aW ([]:List (MK×Int)) (.inl r2.1)).getD 0)+1)))]),(4182,9,[rc1 []]),(4183,26,[aQ []]),(1000000,137,aI r2.2)]) (by cases hx3;rfl) (by cases hx3;rfl) (To.ah (cn h (fun h=>?_) (fun h=>?_)))
    ·refine Wp.seq (rg [2,3] [2,3,4182,4183,1000000] [(2,.own 2 0),(3,.own 3 0)] [(2,26,qc6 b2),(3,26,[vi 3,.str [],.row 4182,.row 4183]),(4182,9,[rc1 []]),(4183,26,[aQ []]),(1000000,137,[.str r2.2.f_s,vi r2.2.aC,vb true])] (To.ah (Wp.seq (rg [2] [2,4182,4183,1000000] [(2,.own 2 0)] [(2,26,[vi 3,.str [],.row 4182,.row 4183]),(4182,9,[rc1 []]),(4183,26,[aQ []]),(1000000,137,[.str r2.2.f_s,vi r2.2.aC,vb true])] (To.ah (Wp.ret (To.aO (To.kF (.inr (.inl rfl)) (nt [2] [2,4182,4183,1000000] [(4182,4122),(4183,4123)] [2] [2,4122,4123,1000000] [(2,.own 2 0)] [(2,26,[vi 3,.str [],.row 4122,.row 4123]),(4122,9,[rc1 []]),(4123,26,[aQ []]),(1000000,137,[.str r2.2.f_s,vi r2.2.aC,vb true])] ?_)))))))))
     cases h
     exact hQ
    ·refine Wp.skip (To.ah (Wp.seq ?_))
     obtain⟨r4,hr4,h⟩:=aF h
     refine rb [] 1 ⟨[(1000000,1000000)],[(1000000,1000000)],[.own 1000000 0],[(1000000,137,aI r2.2)],.tup [.agg (qc6 r4.1),vb r4.2.1],[(1000000,137,aI r4.2.2)]⟩ [0,2,3,4,5,6] [2,3,6,9,4182,4183,1000000] [(0,.own 1000000 0),(2,.own 2 0),(3,.own 3 0),(4,.mp 9),(5,.str r2.1),(6,.own 6 0)] [(2,26,qc6 b2),(3,26,[vi 3,.str [],.row 4182,.row 4183]),(6,26,qc6 r4.1),(9,156,[gU (dJ ([]:List (MK×Int)) (.inl r2.1) (IntKind.wrap .i64 (((aW ([]:List (MK×Int)) (.inl r2.1)).getD 0)+1)))]),(4182,9,[rc1 []]),(4183,26,[aQ []]),(1000000,137,aI r4.2.2)] ((hR_flow_reader_value__o0 r2.2 _ hr4)) (To.ah (Wp.seq ?_))
     obtain⟨hc7,h⟩:=aL h
     obtain⟨hc8,h⟩:=aL h
     refine Wp.sK hm hΓ [] [(3,ls [r2.1]),(4,ls (([]:Ls)++([r2.1]:Ls))),(8,dO [r4.1]),(9,dO (([]:List (af))++([r4.1]:List (af))))] [] [0,2,3,4,5,6,45,46,47,48,49,50,51,52,53,54,55,56] [2,3,6,9,48,49,53,54,4182,4183,1000000] [0,2,3,4] [2,3,9,49,54,1000000] (K':=[(0,.own 1000000 0),(2,.own 2 0),(3,.own 3 0),(4,.mp 9)]) (L':=[(2,26,qc6 b2),(3,26,[vi 3,.str [],.row 49,.row 54]),(9,156,[gU (dJ ([]:List (MK×Int)) (.inl r2.1) (IntKind.wrap .i64 (((aW ([]:List (MK×Int)) (.inl r2.1)).getD 0)+1)))]),(49,9,[rc1 (([]:Ls)++([r2.1]:Ls))]),(54,26,[aQ (([]:List (af))++([r4.1]:List (af)))]),(1000000,137,aI r4.2.2)]) (ob:=[(fD 1 [.str r2.1] 1 (ls [r2.1])/\aX (ls [r2.1])),(decide ((List.length ([]:Ls)+List.length ([r2.1]:Ls))*(16+1)<=limit))=true,(iN [] dU ([]:Ls) (List.flatMap dU ([r2.1]:Ls)) (List.length ([r2.1]:Ls)) (ls (([]:Ls)++([r2.1]:Ls)))/\aX (ls (([]:Ls)++([r2.1]:Ls)))),(fD 4 (qc6 r4.1) 1 (dO [r4.1])/\aX (dO [r4.1])),(decide ((List.length ([]:List (af))+List.length ([r4.1]:List (af)))*(72+1)<=limit))=true,(iN zx3 dV ([]:List (af)) (List.flatMap dV ([r4.1]:List (af))) (List.length ([r4.1]:List (af))) (dO (([]:List (af))++([r4.1]:List (af))))/\aX (dO (([]:List (af))++([r4.1]:List (af)))))]) (by kernel_rfl) (by kernel_rfl) (au.cons (jN (by kernel_rfl) rfl (by kernel_rfl) (dT _)) (au.cons hc7 (au.cons (iP rfl rfl (dT _)) (au.cons (jN (by kernel_rfl) rfl (by kernel_rfl) (bU _)) (au.cons hc8 (au.cons (iP rfl rfl (bU _)) au.nil)))))) (To.ah (Wp.seq (Wp.seq (rg [0,2,3,4,60] [2,3,9,49,54,1000000] [(0,.own 1000000 0),(2,.own 2 0),(3,.own 3 0),(4,.mp 9),(60,vb r4.2.2.bT)] [(2,26,qc6 b2),(3,26,[vi 3,.str [],.row 49,.row 54]),(9,156,[gU (dJ ([]:List (MK×Int)) (.inl r2.1) (IntKind.wrap .i64 (((aW ([]:List (MK×Int)) (.inl r2.1)).getD 0)+1)))]),(49,9,[rc1 (([]:Ls)++([r2.1]:Ls))]),(54,26,[aQ (([]:List (af))++([r4.1]:List (af)))]),(1000000,137,aI r4.2.2)] (To.ah (cn h (fun h=>?_) (fun h=>?_)))))))
     ·refine Wp.seq (rg [2] [2,49,54,1000000] [(2,.own 2 0)] [(2,26,[vi 3,.str [],.row 49,.row 54]),(49,9,[rc1 (([]:Ls)++([r2.1]:Ls))]),(54,26,[aQ (([]:List (af))++([r4.1]:List (af)))]),(1000000,137,aI r4.2.2)] (To.ah (Wp.ret (To.aO (To.kF (.inr (.inl rfl)) (nt [2] [2,49,54,1000000] [(49,4122),(54,4123)] [2] [2,4122,4123,1000000] [(2,.own 2 0)] [(2,26,[vi 3,.str [],.row 4122,.row 4123]),(4122,9,[rc1 (([]:Ls)++([r2.1]:Ls))]),(4123,26,[aQ (([]:List (af))++([r4.1]:List (af)))]),(1000000,137,aI r4.2.2)] ?_))))))
      cases h
      exact hQ
     ·refine Wp.skip (To.ah (Wp.seq (Wp.seq ?_)))
      obtain⟨r5,hr5,h⟩:=aF h
      refine rb [] 1 ⟨[(1000000,1000000)],[(1000000,1000000)],[.own 1000000 0,.val (.int .u8 44)],[(1000000,137,aI r4.2.2)],vb r5.1,[(1000000,137,aI r5.2)]⟩ [0,2,3,4,63] [2,3,9,49,54,1000000] [(0,.own 1000000 0),(2,.own 2 0),(3,.own 3 0),(4,.mp 9),(63,vb r5.1)] [(2,26,qc6 b2),(3,26,[vi 3,.str [],.row 49,.row 54]),(9,156,[gU (dJ ([]:List (MK×Int)) (.inl r2.1) (IntKind.wrap .i64 (((aW ([]:List (MK×Int)) (.inl r2.1)).getD 0)+1)))]),(49,9,[rc1 (([]:Ls)++([r2.1]:Ls))]),(54,26,[aQ (([]:List (af))++([r4.1]:List (af)))]),(1000000,137,aI r5.2)] ((cH n 44 r4.2.2 _ hr5)) (To.ah (cn h (fun h=>?_) (fun h=>?_)))
      ·refine Wp.goto (To.yE (nt [0,2,3,4] [2,3,9,49,54,1000000] [(49,4182),(54,4183)] [0,2,3,4] [2,3,9,4182,4183,1000000] [(0,.own 1000000 0),(2,.own 2 0),(3,.own 3 0),(4,.mp 9)] [(2,26,qc6 b2),(3,26,[vi 3,.str [],.row 4182,.row 4183]),(9,156,[gU (dJ ([]:List (MK×Int)) (.inl r2.1) (IntKind.wrap .i64 (((aW ([]:List (MK×Int)) (.inl r2.1)).getD 0)+1)))]),(4182,9,[rc1 (([]:Ls)++([r2.1]:Ls))]),(4183,26,[aQ (([]:List (af))++([r4.1]:List (af)))]),(1000000,137,aI r5.2)] (To.goto (rest:=cG 0 (cB (cF Tryz.f127))) (by kernel_rfl) ?_)))
       exact ih.2 b2 (af.mk 3 [] (([]:Ls)++([r2.1]:Ls)) (([]:List (af))++([r4.1]:List (af)))) (dJ ([]:List (MK×Int)) (.inl r2.1) (IntKind.wrap .i64 (((aW ([]:List (MK×Int)) (.inl r2.1)).getD 0)+1))) r5.2 _ h hQ
      ·refine Wp.skip (To.ah (Wp.seq ?_))
       obtain⟨r6,hr6,h⟩:=aF h
       refine rb [] 2 ⟨[(1000000,1000000)],[(1000000,1000000)],[.own 1000000 0,.val (.int .u8 125)],[(1000000,137,aI r5.2)],vb r6.1,[(1000000,137,aI r6.2)]⟩ [2,3] [2,3,49,54,1000000] [(2,.own 2 0),(3,.own 3 0)] [(2,26,qc6 b2),(3,26,[vi 3,.str [],.row 49,.row 54]),(49,9,[rc1 (([]:Ls)++([r2.1]:Ls))]),(54,26,[aQ (([]:List (af))++([r4.1]:List (af)))]),(1000000,137,[.str r6.2.f_s,vi r6.2.aC,vb (!r6.1)])] ((cH n 125 r5.2 _ hr6)) (To.ah (Wp.seq (rg [2] [2,49,54,1000000] [(2,.own 2 0)] [(2,26,[vi 3,.str [],.row 49,.row 54]),(49,9,[rc1 (([]:Ls)++([r2.1]:Ls))]),(54,26,[aQ (([]:List (af))++([r4.1]:List (af)))]),(1000000,137,[.str r6.2.f_s,vi r6.2.aC,vb (!r6.1)])] (To.ah (Wp.ret (To.kF (.inr (.inl rfl)) (nt [2] [2,49,54,1000000] [(49,4122),(54,4123)] [2] [2,4122,4123,1000000] [(2,.own 2 0)] [(2,26,[vi 3,.str [],.row 4122,.row 4123]),(4122,9,[rc1 (([]:Ls)++([r2.1]:Ls))]),(4123,26,[aQ (([]:List (af))++([r4.1]:List (af)))]),(1000000,137,[.str r6.2.f_s,vi r6.2.aC,vb (!r6.1)])] ?_)))))))
       cases h
       exact hQ
  ·intro b2 b3 b9 b1000000 o h hQ
   rw[dh] at h
   refine WG.pass (Wp.seq (Wp.skip (To.ah (Wp.seq ?_))))
   obtain⟨r1,hr1,h⟩:=aF h
   refine rb [] 1 ⟨[(1000000,1000000)],[(1000000,1000000)],[.own 1000000 0],[(1000000,137,aI b1000000)],.str r1.1,[(1000000,137,aI r1.2)]⟩ [0,2,3,4,5] [2,3,9,4182,4183,1000000] [(0,.own 1000000 0),(2,.own 2 0),(3,.own 3 0),(4,.mp 9),(5,.str r1.1)] [(2,26,qc6 b2),(3,26,dQ 4182 4183 b3),(9,156,[gU b9]),(4182,9,[rc1 b3.ay]),(4183,26,[aQ b3.aj]),(1000000,137,aI r1.2)] ((nO n b1000000 _ hr1)) (To.ah (Wp.seq (Wp.seq (rr [] [(2,vi ((aW b9 (.inl r1.1)).getD 0)),(4,gU (dJ b9 (.inl r1.1) (IntKind.wrap .i64 (((aW b9 (.inl r1.1)).getD 0)+1))))] [] [0,2,3,4,5] [2,3,9,4182,4183,1000000] [(0,.own 1000000 0),(2,.own 2 0),(3,.own 3 0),(4,.mp 9),(5,.str r1.1)] [(2,26,qc6 b2),(3,26,dQ 4182 4183 b3),(9,156,[gU (dJ b9 (.inl r1.1) (IntKind.wrap .i64 (((aW b9 (.inl r1.1)).getD 0)+1)))]),(4182,9,[rc1 b3.ay]),(4183,26,[aQ b3.aj]),(1000000,137,aI r1.2)] [(true=true->uf false um b9 (.inl r1.1) [vi 0] (vi ((aW b9 (.inl r1.1)).getD 0))),(∃l':List (MK×Int),(gU (dJ b9 (.inl r1.1) (IntKind.wrap .i64 (((aW b9 (.inl r1.1)).getD 0)+1))):D)=gU l'/\Ax um b9 (.inl r1.1) [vi (IntKind.wrap .i64 (((aW b9 (.inl r1.1)).getD 0)+1))] l')] (au.cons (fun _=>⟨0,bG.of_eq (by kernel_rfl),by kernel_rfl⟩) (au.cons (⟨_,rfl,(IntKind.wrap .i64 (((aW b9 (.inl r1.1)).getD 0)+1)),bG.of_eq (by kernel_rfl),rfl⟩) au.nil)) ?_))))
   refine To.ah (Wp.seq ?_)
   obtain⟨x2,hx2,h⟩:=bI h
   refine rr [] [(7,vi ((aW (dJ b9 (.inl r1.1) (IntKind.wrap .i64 (((aW b9 (.inl r1.1)).getD 0)+1))) (.inl r1.1)).getD 0))] [] [0,2,3,4,5,35] [2,3,9,4182,4183,1000000] [(0,.own 1000000 0),(2,.own 2 0),(3,.own 3 0),(4,.mp 9),(5,.str r1.1),(35,vb (bif r1.2.bT then true else(decide (((aW (dJ b9 (.inl r1.1) (IntKind.wrap .i64 (((aW b9 (.inl r1.1)).getD 0)+1))) (.inl r1.1)).getD 0)>1))))] [(2,26,qc6 b2),(3,26,dQ 4182 4183 b3),(9,156,[gU (dJ b9 (.inl r1.1) (IntKind.wrap .i64 (((aW b9 (.inl r1.1)).getD 0)+1)))]),(4182,9,[rc1 b3.ay]),(4183,26,[aQ b3.aj]),(1000000,137,aI r1.2)] [((r1.2.bT==false)=true->uf false um (dJ b9 (.inl r1.1) (IntKind.wrap .i64 (((aW b9 (.inl r1.1)).getD 0)+1))) (.inl r1.1) [vi 0] (vi ((aW (dJ b9 (.inl r1.1) (IntKind.wrap .i64 (((aW b9 (.inl r1.1)).getD 0)+1))) (.inl r1.1)).getD 0)))] (au.cons (fun _=>⟨0,bG.of_eq (by kernel_rfl),by kernel_rfl⟩) au.nil) ?_
   refine To.eq (K':=[(0,.own 1000000 0),(2,.own 2 0),(3,.own 3 0),(4,.mp 9),(5,.str r1.1),(35,vb x2)]) (L':=[(2,26,qc6 b2),(3,26,dQ 4182 4183 b3),(9,156,[gU (dJ b9 (.inl r1.1) (IntKind.wrap .i64 (((aW b9 (.inl r1.1)).getD 0)+1)))]),(4182,9,[rc1 b3.ay]),(4183,26,[aQ b3.aj]),(1000000,137,aI r1.2)]) (by cases hx2;rfl) (by cases hx2;rfl) (To.ah (cn h (fun h=>?_) (fun h=>?_)))
   ·refine Wp.seq (rg [2,3] [2,3,4182,4183,1000000] [(2,.own 2 0),(3,.own 3 0)] [(2,26,qc6 b2),(3,26,dQ 4182 4183 b3),(4182,9,[rc1 b3.ay]),(4183,26,[aQ b3.aj]),(1000000,137,[.str r1.2.f_s,vi r1.2.aC,vb true])] (To.ah (Wp.seq (rg [2] [2,4182,4183,1000000] [(2,.own 2 0)] [(2,26,dQ 4182 4183 b3),(4182,9,[rc1 b3.ay]),(4183,26,[aQ b3.aj]),(1000000,137,[.str r1.2.f_s,vi r1.2.aC,vb true])] (To.ah (Wp.ret (To.aO (To.kF (.inr (.inl rfl)) (nt [2] [2,4182,4183,1000000] [(4182,4122),(4183,4123)] [2] [2,4122,4123,1000000] [(2,.own 2 0)] [(2,26,dQ 4122 4123 b3),(4122,9,[rc1 b3.ay]),(4123,26,[aQ b3.aj]),(1000000,137,[.str r1.2.f_s,vi r1.2.aC,vb true])] ?_)))))))))
    cases h
    exact hQ
   ·refine Wp.skip (To.ah (Wp.seq ?_))
    obtain⟨r3,hr3,h⟩:=aF h
    refine rb [] 1 ⟨[(1000000,1000000)],[(1000000,1000000)],[.own 1000000 0],[(1000000,137,aI r1.2)],.tup [.agg (qc6 r3.1),vb r3.2.1],[(1000000,137,aI r3.2.2)]⟩ [0,2,3,4,5,6] [2,3,6,9,4182,4183,1000000] [(0,.own 1000000 0),(2,.own 2 0),(3,.own 3 0),(4,.mp 9),(5,.str r1.1),(6,.own 6 0)] [(2,26,qc6 b2),(3,26,dQ 4182 4183 b3),(6,26,qc6 r3.1),(9,156,[gU (dJ b9 (.inl r1.1) (IntKind.wrap .i64 (((aW b9 (.inl r1.1)).getD 0)+1)))]),(4182,9,[rc1 b3.ay]),(4183,26,[aQ b3.aj]),(1000000,137,aI r3.2.2)] ((hR_flow_reader_value__o0 r1.2 _ hr3)) (To.ah (Wp.seq ?_))
    obtain⟨hc6,h⟩:=aL h
    obtain⟨hc7,h⟩:=aL h
    refine Wp.sK hm hΓ [] [(3,ls [r1.1]),(4,ls (b3.ay++([r1.1]:Ls))),(8,dO [r3.1]),(9,dO (b3.aj++([r3.1]:List (af))))] [] [0,2,3,4,5,6,45,46,47,48,49,50,51,52,53,54,55,56] [2,3,6,9,48,49,53,54,4182,4183,1000000] [0,2,3,4] [2,3,9,49,54,1000000] (K':=[(0,.own 1000000 0),(2,.own 2 0),(3,.own 3 0),(4,.mp 9)]) (L':=[(2,26,qc6 b2),(3,26,dQ 49 54 b3),(9,156,[gU (dJ b9 (.inl r1.1) (IntKind.wrap .i64 (((aW b9 (.inl r1.1)).getD 0)+1)))]),(49,9,[rc1 (b3.ay++([r1.1]:Ls))]),(54,26,[aQ (b3.aj++([r3.1]:List (af)))]),(1000000,137,aI r3.2.2)]) (ob:=[(fD 1 [.str r1.1] 1 (ls [r1.1])/\aX (ls [r1.1])),(decide ((List.length b3.ay+List.length ([r1.1]:Ls))*(16+1)<=limit))=true,(iN [] dU b3.ay (List.flatMap dU ([r1.1]:Ls)) (List.length ([r1.1]:Ls)) (ls (b3.ay++([r1.1]:Ls)))/\aX (ls (b3.ay++([r1.1]:Ls)))),(fD 4 (qc6 r3.1) 1 (dO [r3.1])/\aX (dO [r3.1])),(decide ((List.length b3.aj+List.length ([r3.1]:List (af)))*(72+1)<=limit))=true,(iN zx3 dV b3.aj (List.flatMap dV ([r3.1]:List (af))) (List.length ([r3.1]:List (af))) (dO (b3.aj++([r3.1]:List (af))))/\aX (dO (b3.aj++([r3.1]:List (af)))))]) (by kernel_rfl) (by kernel_rfl) (au.cons (jN (by kernel_rfl) rfl (by kernel_rfl) (dT _)) (au.cons hc6 (au.cons (iP rfl rfl (dT _)) (au.cons (jN (by kernel_rfl) rfl (by kernel_rfl) (bU _)) (au.cons hc7 (au.cons (iP rfl rfl (bU _)) au.nil)))))) (To.ah (Wp.seq (Wp.seq (rg [0,2,3,4,60] [2,3,9,49,54,1000000] [(0,.own 1000000 0),(2,.own 2 0),(3,.own 3 0),(4,.mp 9),(60,vb r3.2.2.bT)] [(2,26,qc6 b2),(3,26,dQ 49 54 b3),(9,156,[gU (dJ b9 (.inl r1.1) (IntKind.wrap .i64 (((aW b9 (.inl r1.1)).getD 0)+1)))]),(49,9,[rc1 (b3.ay++([r1.1]:Ls))]),(54,26,[aQ (b3.aj++([r3.1]:List (af)))]),(1000000,137,aI r3.2.2)] (To.ah (cn h (fun h=>?_) (fun h=>?_)))))))
    ·refine Wp.seq (rg [2] [2,49,54,1000000] [(2,.own 2 0)] [(2,26,dQ 49 54 b3),(49,9,[rc1 (b3.ay++([r1.1]:Ls))]),(54,26,[aQ (b3.aj++([r3.1]:List (af)))]),(1000000,137,aI r3.2.2)] (To.ah (Wp.ret (To.aO (To.kF (.inr (.inl rfl)) (nt [2] [2,49,54,1000000] [(49,4122),(54,4123)] [2] [2,4122,4123,1000000] [(2,.own 2 0)] [(2,26,dQ 4122 4123 b3),(4122,9,[rc1 (b3.ay++([r1.1]:Ls))]),(4123,26,[aQ (b3.aj++([r3.1]:List (af)))]),(1000000,137,aI r3.2.2)] ?_))))))
     cases h
     exact hQ
    ·refine Wp.skip (To.ah (Wp.seq (Wp.seq ?_)))
     obtain⟨r4,hr4,h⟩:=aF h
     refine rb [] 1 ⟨[(1000000,1000000)],[(1000000,1000000)],[.own 1000000 0,.val (.int .u8 44)],[(1000000,137,aI r3.2.2)],vb r4.1,[(1000000,137,aI r4.2)]⟩ [0,2,3,4,63] [2,3,9,49,54,1000000] [(0,.own 1000000 0),(2,.own 2 0),(3,.own 3 0),(4,.mp 9),(63,vb r4.1)] [(2,26,qc6 b2),(3,26,dQ 49 54 b3),(9,156,[gU (dJ b9 (.inl r1.1) (IntKind.wrap .i64 (((aW b9 (.inl r1.1)).getD 0)+1)))]),(49,9,[rc1 (b3.ay++([r1.1]:Ls))]),(54,26,[aQ (b3.aj++([r3.1]:List (af)))]),(1000000,137,aI r4.2)] ((cH n 44 r3.2.2 _ hr4)) (To.ah (cn h (fun h=>?_) (fun h=>?_)))
     ·refine Wp.goto (To.yE (nt [0,2,3,4] [2,3,9,49,54,1000000] [(49,4182),(54,4183)] [0,2,3,4] [2,3,9,4182,4183,1000000] [(0,.own 1000000 0),(2,.own 2 0),(3,.own 3 0),(4,.mp 9)] [(2,26,qc6 b2),(3,26,dQ 4182 4183 b3),(9,156,[gU (dJ b9 (.inl r1.1) (IntKind.wrap .i64 (((aW b9 (.inl r1.1)).getD 0)+1)))]),(4182,9,[rc1 (b3.ay++([r1.1]:Ls))]),(4183,26,[aQ (b3.aj++([r3.1]:List (af)))]),(1000000,137,aI r4.2)] (To.goto (rest:=cG 0 (cB (cF Tryz.f127))) (by kernel_rfl) ?_)))
      exact ih.2 b2 (af.mk b3.aG b3.av (b3.ay++([r1.1]:Ls)) (b3.aj++([r3.1]:List (af)))) (dJ b9 (.inl r1.1) (IntKind.wrap .i64 (((aW b9 (.inl r1.1)).getD 0)+1))) r4.2 _ h hQ
     ·refine Wp.skip (To.ah (Wp.seq ?_))
      obtain⟨r5,hr5,h⟩:=aF h
      refine rb [] 2 ⟨[(1000000,1000000)],[(1000000,1000000)],[.own 1000000 0,.val (.int .u8 125)],[(1000000,137,aI r4.2)],vb r5.1,[(1000000,137,aI r5.2)]⟩ [2,3] [2,3,49,54,1000000] [(2,.own 2 0),(3,.own 3 0)] [(2,26,qc6 b2),(3,26,dQ 49 54 b3),(49,9,[rc1 (b3.ay++([r1.1]:Ls))]),(54,26,[aQ (b3.aj++([r3.1]:List (af)))]),(1000000,137,[.str r5.2.f_s,vi r5.2.aC,vb (!r5.1)])] ((cH n 125 r4.2 _ hr5)) (To.ah (Wp.seq (rg [2] [2,49,54,1000000] [(2,.own 2 0)] [(2,26,dQ 49 54 b3),(49,9,[rc1 (b3.ay++([r1.1]:Ls))]),(54,26,[aQ (b3.aj++([r3.1]:List (af)))]),(1000000,137,[.str r5.2.f_s,vi r5.2.aC,vb (!r5.1)])] (To.ah (Wp.ret (To.kF (.inr (.inl rfl)) (nt [2] [2,49,54,1000000] [(49,4122),(54,4123)] [2] [2,4122,4123,1000000] [(2,.own 2 0)] [(2,26,dQ 4122 4123 b3),(4122,9,[rc1 (b3.ay++([r1.1]:Ls))]),(4123,26,[aQ (b3.aj++([r3.1]:List (af)))]),(1000000,137,[.str r5.2.f_s,vi r5.2.aC,vb (!r5.1)])] ?_)))))))
      cases h
      exact hQ
def eY(R_flow_reader_value__o0:ai->Option (af×Bool×ai))(n:Nat)(h0:ai):Option (af×ai) :=
 (bV R_flow_reader_value__o0 n n (af.mk 0 [] [] []) h0).bind fun o1 =>
 some (o1.1,o1.2)
theorem tX(R_flow_reader_value__o0:ai->Option (af×Bool×ai))(hR_flow_reader_value__o0:zU R_flow_reader_value__o0)(n:Nat)(h0:ai)(r:af×ai)(h:eY R_flow_reader_value__o0 n h0=some r):aZ Tryz.prog 127 [.own 1000000 0] [(1000000,137,aI h0)] (.agg (qc6 r.1)) [(1000000,137,aI r.2)]:=by
 unfold eY at h
 refine bo Tryz.f127 rfl fun F0 w0=>?_
 refine Wp.seq (rg [0,2] [2,1000000] [(0,.own 1000000 0),(2,.own 2 0)] [(2,26,[vi 0,.str [],.val (.slice none 0 0),.val (.slice none 0 0)]),(1000000,137,aI h0)] (To.ah ?_))
 obtain⟨o1,ho1,h⟩:=aF h
 refine kw [0,2] [2,1000000] [(0,.own 1000000 0),(2,.own 2 0)] [(2,26,[vi 0,.str [],.val (.slice none 0 0),.val (.slice none 0 0)]),(1000000,137,aI h0)] (Wp.weak (K':=[(0,.own 1000000 0),(2,.own 2 0)]) (L':=[(2,26,[vi 0,.str [],ls [],tn4 []]),(1000000,137,aI h0)]) (.cons (.refl _) (.cons (.refl _) .nil)) (.cons (.cons (.refl _) (.cons (.refl _) (.cons (.zero _ _) (.cons (.ik _ _ _) .nil)))) (.cons (.cons (.refl _) (.cons (.refl _) (.cons (.refl _) .nil))) .nil)) (Wp.FH ((qX R_flow_reader_value__o0 hR_flow_reader_value__o0 n n).1 zx3 h0 o1 ho1 (kt [2] [2,4122,4123,1000000] [(2,.own 2 0)] [(2,26,dQ 4122 4123 o1.1),(4122,9,[rc1 o1.1.ay]),(4123,26,[aQ o1.1.aj]),(1000000,137,aI o1.2)] (To.pre (St.settle (ks:=[4122,4123]) (kk:=[2]) (kl:=[2,4122,4123,1000000]) (K':=[(2,.own 2 0)]) (L':=[(2,26,dQ 4122 4123 o1.1),(4122,9,[rc2 o1.1.ay]),(4123,26,[rK o1.1.aj]),(1000000,137,aI o1.2)]) (by kernel_rfl)) (To.pre (St.EK [2] (L':=[(2,26,JR o1.1),(4122,9,[rc2 o1.1.ay]),(4123,26,[rK o1.1.aj]),(1000000,137,aI o1.2)]) (by kernel_rfl)) (To.weak (K':=[(2,.own 2 0)]) (L':=[(2,26,qc6 o1.1),(4122,9,[rc2 o1.1.ay]),(4123,26,[rK o1.1.aj]),(1000000,137,aI o1.2)]) (.cons (.refl _) .nil) (.cons (.cons (.refl _) (.cons (.refl _) (.cons (.refl _) (.cons (.close _ _ _ _) .nil)))) (.cons (.cons (.refl _) .nil) (.cons (.cons (.refl _) .nil) (.cons (.cons (.refl _) (.cons (.refl _) (.cons (.refl _) .nil))) .nil)))) ?_)))))))
 cases h
 exact To.fl hΓ [1000000] (by kernel_rfl) (by kernel_rfl)
def dL(R_flow_reader_value__o0:ai->Option (af×Bool×ai))(n:Nat)(v8:Int)(v17:Bool)(b2:af)(b1000000:ai):Option (Bool) :=
 if v17=true then some v17
 else(some (v8==39))
theorem qU(R_flow_reader_value__o0:ai->Option (af×Bool×ai))(hR_flow_reader_value__o0:zU R_flow_reader_value__o0)(n:Nat)(v8:Int)(v17:Bool)(b2:af)(b1000000:ai)(o:Bool)(h:dL R_flow_reader_value__o0 n v8 v17 b2 b1000000=some o)(hQ:To 44 F0 w0 [(0,.own 1000000 0),(2,.own 2 0),(17,vb o)] [(2,26,qc6 b2),(1000000,137,aI b1000000)] .normal Q):Wp Tryz.prog 44 F0 w0 [(0,.own 1000000 0),(2,.own 2 0),(8,.val (.int .u8 v8)),(17,vb v17)] [(2,26,qc6 b2),(1000000,137,aI b1000000)] (cB (cA (cE (cB (cE (cB (cI (cB (cA (cB (cF Tryz.f112))))))))))) Q:=by
 unfold dL at h
 refine cn h (fun h=>?_) (fun h=>?_)
 ·refine Wp.skip (kt [0,2,17] [2,1000000] [(0,.own 1000000 0),(2,.own 2 0),(17,vb v17)] [(2,26,qc6 b2),(1000000,137,aI b1000000)] ?_)
  cases h
  exact hQ
 ·refine rg [0,2,17] [2,1000000] [(0,.own 1000000 0),(2,.own 2 0),(17,vb (v8==39))] [(2,26,qc6 b2),(1000000,137,aI b1000000)] (kt [0,2,17] [2,1000000] [(0,.own 1000000 0),(2,.own 2 0),(17,vb (v8==39))] [(2,26,qc6 b2),(1000000,137,aI b1000000)] ?_)
  cases h
  exact hQ
def gw(R_flow_reader_value__o0:ai->Option (af×Bool×ai))(n:Nat)(v8:Int)(b2:af)(b1000000:ai):Option (Sum (af×ai) (Bool×af×ai)) :=
 if(v8==91)=true then((fM R_flow_reader_value__o0 n b1000000).bind fun r2 =>
 some (.inr (true,r2.1,r2.2)))
 else(if(v8==123)=true then((eY R_flow_reader_value__o0 n b1000000).bind fun r3 =>
 some (.inr (true,r3.1,r3.2)))
 else((dL R_flow_reader_value__o0 n v8 (v8==34) b2 b1000000).bind fun o4 =>
 if o4=true then((dR n b1000000).bind fun r5 =>
 aR (qV r5.1) fun r6 =>
 some (.inr (true,r6,r5.2)))
 else(some (.inl (b2,b1000000)))))
theorem rC(R_flow_reader_value__o0:ai->Option (af×Bool×ai))(hR_flow_reader_value__o0:zU R_flow_reader_value__o0)(n:Nat)(v8:Int)(b2:af)(b1000000:ai)(o:Sum (af×ai) (Bool×af×ai))(h:gw R_flow_reader_value__o0 n v8 b2 b1000000=some o)(hQ:(Sum.elim (fun s=>To 44 F0 w0 [(0,.own 1000000 0),(2,.own 2 0)] [(2,26,qc6 s.1),(1000000,137,aI s.2)] .normal Q) (fun s=>To 44 F0 w0 [(2,.own 2 0),(3,vb s.1)] [(2,26,qc6 s.2.1),(1000000,137,aI s.2.2)] .ret Q)) o):Wp Tryz.prog 44 F0 w0 [(0,.own 1000000 0),(2,.own 2 0),(8,.val (.int .u8 v8))] [(2,26,qc6 b2),(1000000,137,aI b1000000)] (cB (cA (cB (cF Tryz.f112)))) Q:=by
 unfold gw at h
 refine Wp.block (Wp.seq (rg [0,2,8,9] [2,1000000] [(0,.own 1000000 0),(2,.own 2 0),(8,.val (.int .u8 v8)),(9,vb (v8==91))] [(2,26,qc6 b2),(1000000,137,aI b1000000)] (To.ah (cn h (fun h=>?_) (fun h=>?_)))))
 ·refine Wp.seq ?_
  obtain⟨r2,hr2,h⟩:=aF h
  refine rb [] 1 ⟨[(1000000,1000000)],[(1000000,1000000)],[.own 1000000 0],[(1000000,137,aI b1000000)],.agg (qc6 r2.1),[(1000000,137,aI r2.2)]⟩ [2,3] [2,1000000] [(2,.own 2 0),(3,vb true)] [(2,26,qc6 r2.1),(1000000,137,aI r2.2)] ((uR R_flow_reader_value__o0 hR_flow_reader_value__o0 n b1000000 _ hr2)) (To.ah (Wp.ret (To.aU ?_)))
  cases h
  exact hQ
 ·refine Wp.seq (rg [0,2,8,13] [2,1000000] [(0,.own 1000000 0),(2,.own 2 0),(8,.val (.int .u8 v8)),(13,vb (v8==123))] [(2,26,qc6 b2),(1000000,137,aI b1000000)] (To.ah (cn h (fun h=>?_) (fun h=>?_))))
  ·refine Wp.seq ?_
   obtain⟨r3,hr3,h⟩:=aF h
   refine rb [] 1 ⟨[(1000000,1000000)],[(1000000,1000000)],[.own 1000000 0],[(1000000,137,aI b1000000)],.agg (qc6 r3.1),[(1000000,137,aI r3.2)]⟩ [2,3] [2,1000000] [(2,.own 2 0),(3,vb true)] [(2,26,qc6 r3.1),(1000000,137,aI r3.2)] ((tX R_flow_reader_value__o0 hR_flow_reader_value__o0 n b1000000 _ hr3)) (To.ah (Wp.ret (To.aU ?_)))
   cases h
   exact hQ
  ·refine Wp.seq (Wp.seq (rg [0,2,8,17] [2,1000000] [(0,.own 1000000 0),(2,.own 2 0),(8,.val (.int .u8 v8)),(17,vb (v8==34))] [(2,26,qc6 b2),(1000000,137,aI b1000000)] (To.ah ?_)))
   obtain⟨o4,ho4,h⟩:=aF h
   refine kw [0,2,8,17] [2,1000000] [(0,.own 1000000 0),(2,.own 2 0),(8,.val (.int .u8 v8)),(17,vb (v8==34))] [(2,26,qc6 b2),(1000000,137,aI b1000000)] (qU R_flow_reader_value__o0 hR_flow_reader_value__o0 n v8 (v8==34) b2 b1000000 o4 ho4 (To.ah (cn h (fun h=>?_) (fun h=>?_))))
   ·refine Wp.seq ?_
    obtain⟨r5,hr5,h⟩:=aF h
    obtain⟨r6,hr6,h⟩:=bI h
    refine rr [] [(2,.agg (qc6 r6))] [(1,⟨[(1000000,1000000)],[(1000000,1000000)],[.own 1000000 0],[(1000000,137,aI b1000000)],.str r5.1,[(1000000,137,aI r5.2)]⟩)] [2,3] [2,1000000] [(2,.own 2 0),(3,vb true)] [(2,26,qc6 r6),(1000000,137,aI r5.2)] [rO (aZ Tryz.prog) 128 [.own 1000000 0] [some (137,aI b1000000)] ⟨[(1000000,1000000)],[(1000000,1000000)],[.own 1000000 0],[(1000000,137,aI b1000000)],.str r5.1,[(1000000,137,aI r5.2)]⟩,_] (au.cons (⟨(mC n b1000000 _ hr5),by kernel_rfl,by kernel_rfl⟩) (au.cons (c1 (sZ r5.1 _ hr6)) au.nil)) ?_
    refine To.ah (Wp.ret (To.aU ?_))
    cases h
    exact hQ
   ·refine Wp.skip (To.bf (kt [0,2] [2,1000000] [(0,.own 1000000 0),(2,.own 2 0)] [(2,26,qc6 b2),(1000000,137,aI b1000000)] ?_))
    cases h
    exact hQ
def eE(R_flow_reader_value__o0:ai->Option (af×Bool×ai))(n:Nat)(h0:ai):Option (af×Bool×ai) :=
 (dP n h0).bind fun r1 =>
 (gw R_flow_reader_value__o0 n r1.1 (af.mk 0 [] [] []) r1.2).bind fun o2 =>
 (Sum.elim (fun o2=>(fV n o2.2).bind fun r3 =>
 (dN n r3.1 true).bind fun r4 =>
 some (r4.1,(!(r3.1==[])),(ai.mk r3.2.f_s r3.2.aC (bif r3.2.bT then true else(r4.2 != 0))))) (fun o2=>some (o2.2.1,o2.1,o2.2.2))) o2
theorem rN(R_flow_reader_value__o0:ai->Option (af×Bool×ai))(hR_flow_reader_value__o0:zU R_flow_reader_value__o0)(n:Nat)(h0:ai)(r:af×Bool×ai)(h:eE R_flow_reader_value__o0 n h0=some r):aZ Tryz.prog 112 [.own 1000000 0] [(1000000,137,aI h0)] (.tup [.agg (qc6 r.1),vb r.2.1]) [(1000000,137,aI r.2.2)]:=by
 unfold eE at h
 refine bo Tryz.f112 rfl fun F0 w0=>?_
 refine Wp.seq (rg [0,2] [2,1000000] [(0,.own 1000000 0),(2,.own 2 0)] [(2,26,[vi 0,.str [],.val (.slice none 0 0),.val (.slice none 0 0)]),(1000000,137,aI h0)] (To.ah (Wp.seq (Wp.seq ?_))))
 obtain⟨r1,hr1,h⟩:=aF h
 refine rb [] 1 ⟨[(1000000,1000000)],[(1000000,1000000)],[.own 1000000 0],[(1000000,137,aI h0)],.val (.int .u8 r1.1),[(1000000,137,aI r1.2)]⟩ [0,2,8] [2,1000000] [(0,.own 1000000 0),(2,.own 2 0),(8,.val (.int .u8 r1.1))] [(2,26,[vi 0,.str [],.val (.slice none 0 0),.val (.slice none 0 0)]),(1000000,137,aI r1.2)] ((jd n h0 _ hr1)) (To.ah ?_)
 obtain⟨o2,ho2,h⟩:=aF h
 refine kw [0,2,8] [2,1000000] [(0,.own 1000000 0),(2,.own 2 0),(8,.val (.int .u8 r1.1))] [(2,26,[vi 0,.str [],.val (.slice none 0 0),.val (.slice none 0 0)]),(1000000,137,aI r1.2)] (Wp.weak (K':=[(0,.own 1000000 0),(2,.own 2 0),(8,.val (.int .u8 r1.1))]) (L':=[(2,26,[vi 0,.str [],ls [],tn4 []]),(1000000,137,aI r1.2)]) (.cons (.refl _) (.cons (.refl _) (.cons (.refl _) .nil))) (.cons (.cons (.refl _) (.cons (.refl _) (.cons (.zero _ _) (.cons (.ik _ _ _) .nil)))) (.cons (.cons (.refl _) (.cons (.refl _) (.cons (.refl _) .nil))) .nil)) (rC R_flow_reader_value__o0 hR_flow_reader_value__o0 n r1.1 zx3 r1.2 o2 ho2 ?_))
 rcases o2 with o2|o2
 ·replace h:=iU h
  refine To.ah (Wp.seq ?_)
  obtain⟨r3,hr3,h⟩:=aF h
  refine rb [] 1 ⟨[(1000000,1000000)],[(1000000,1000000)],[.own 1000000 0],[(1000000,137,aI o2.2)],.str r3.1,[(1000000,137,aI r3.2)]⟩ [0,2,4] [2,1000000] [(0,.own 1000000 0),(2,.own 2 0),(4,.str r3.1)] [(2,26,qc6 o2.1),(1000000,137,aI r3.2)] ((mH n o2.2 _ hr3)) (To.ah (Wp.seq ?_))
  obtain⟨r4,hr4,h⟩:=aF h
  refine rc [] 1 [0,2,4,5,6] [2,5,1000000] [(0,.own 1000000 0),(2,.own 2 0),(4,.str r3.1),(5,.own 5 0),(6,vi r4.2)] [(2,26,qc6 o2.1),(5,26,qc6 r4.1),(1000000,137,aI r3.2)] (u6 n r3.1 true _ hr4) (To.ah (Wp.seq (rg [2,4,5] [2,5,1000000] [(2,.own 2 0),(4,.str r3.1),(5,.own 5 0)] [(2,26,qc6 o2.1),(5,26,qc6 r4.1),(1000000,137,[.str r3.2.f_s,vi r3.2.aC,vb (bif r3.2.bT then true else(r4.2 != 0))])] (To.ah (Wp.seq (rg [2,3] [2,1000000] [(2,.own 2 0),(3,vb (!(r3.1==[])))] [(2,26,qc6 r4.1),(1000000,137,[.str r3.2.f_s,vi r3.2.aC,vb (bif r3.2.bT then true else(r4.2 != 0))])] (To.ah (Wp.ret ?_))))))))
  cases h
  exact To.fl hΓ [1000000] (by kernel_rfl) (by kernel_rfl)
 ·replace h:=iV h
  refine To.aO ?_
  cases h
  exact To.fl hΓ [1000000] (by kernel_rfl) (by kernel_rfl)
def aV:Nat->ai->Option (af×Bool×ai)
 |0=>fun _=>none
 |n+1=>eE (aV n) n
theorem tZ(n:Nat):∀(h0:ai)(r:af×Bool×ai),aV n h0=some r->aZ Tryz.prog 112 [.own 1000000 0] [(1000000,137,aI h0)] (.tup [.agg (qc6 r.1),vb r.2.1]) [(1000000,137,aI r.2.2)]:=by
 induction n with
 |zero=>intro h0 r h;cases h
 |succ n ih=>exact fun h0 r h=>rN (aV n) ih n h0 r h
structure aJ where
 dD:Int
def nM(n:Nat)(a0:Ls):Option ((Ls)) :=
 if(decide ((List.length ([]:Ls)+List.length a0)*(16+1)<=limit))=true then(if(decide (List.length (([]:Ls)++a0)*17<=limit))=true then(if(decide (List.length (Sh.sort (([]:Ls)++a0))*17<=limit))=true then(some (Lib.compact (Sh.sort (([]:Ls)++a0)))) else none) else none) else none
abbrev uO(x0:Ls):=(([]:Ls)++x0)
theorem Dh(n:Nat)(a0:Ls)(r:(Ls))(h:nM n a0=some r):bg Tryz.prog 91 [ls a0] (ls r):=by
 unfold nM at h
 refine xo Tryz.f91 rfl fun F0 w0 _=>?_
 refine Wp.seq (rg [0] [] [(0,ls a0)] [] (To.ah (Wp.seq ?_)))
 obtain⟨hc3,h⟩:=aL h
 refine rr [] [(0,ls []),(2,ls (uO a0))] [] [3] [6] [(3,.row 6)] [(6,9,[rc1 (uO a0)])] [(fD 1 [] 0 (ls [])/\aX (ls [])),_,(iN [] dU ([]:Ls) (List.flatMap dU a0) (List.length a0) (ls (uO a0))/\aX (ls (uO a0)))] (au.cons (jN (by kernel_rfl) rfl (by kernel_rfl) (dT _)) (au.cons hc3 (au.cons (iP rfl rfl (dT _)) au.nil))) (To.ah (Wp.seq ?_))
 obtain⟨u1,h⟩:=aL h
 refine rb [] 1 ⟨[(1000000,6)],[(1000000,6)],[.row 1000000],[(1000000,9,[rc1 (uO a0)])],.tup [],[(1000000,9,[rc1 (Sh.sort (uO a0))])]⟩ [3] [6] [(3,.row 6)] [(6,9,[rc1 (Sh.sort (uO a0))])] (Sh.Pn u1) (To.ah (Wp.seq ?_))
 obtain⟨u2,h⟩:=aL h
 refine rb [] 1 ⟨[(1000000,6)],[],[.row 1000000],[(1000000,9,[rc1 (Sh.sort (uO a0))])],ls (Lib.compact (Sh.sort (uO a0))),[]⟩ [2] [] [(2,ls (Lib.compact (Sh.sort (uO a0))))] [] (Sh.JF u2) (To.ah (Wp.ret ?_))
 cases h
 exact To.done hΓ (by kernel_rfl)
def iT(R_node_budget_right__o0:af->Int->aJ->Option (Bool×aJ))(n:Nat)(v2:Int)(v26:Int)(b4:af)(b1000000:aJ):Option (Sum (Unit) (Bool)) :=
 if(v26==0)=true then(aR ((bif (b4.av==[]) then((IntKind.wrap .i64 ((List.length b4.ay:Int)+(List.length b4.aj:Int)))==0) else false):Bool) fun x1 =>
 some (.inr x1))
 else(if(v26==1)=true then(some (.inr ((IntKind.wrap .i64 ((List.length b4.ay:Int)+(List.length b4.aj:Int)))==0)))
 else(if(v26==2)=true then(if(bif (!(b4.av==[])) then true else(decide ((List.length b4.ay:Int)>0)))=true then(some (.inr false))
 else(some (.inl ())))
 else(if(v26==3)=true then(((if((bif (bif (!(b4.av==[])) then true else((List.length b4.ay:Int) != (List.length b4.aj:Int))) then true else(decide ((List.length b4.ay:Int)>b1000000.dD)))==false)=true then nM n b4.ay else some [])).bind fun r2 =>
 aR ((bif (bif (bif (!(b4.av==[])) then true else((List.length b4.ay:Int) != (List.length b4.aj:Int))) then true else(decide ((List.length b4.ay:Int)>b1000000.dD))) then true else((List.length r2:Int) != (List.length b4.ay:Int))):Bool) fun x3 =>
 if x3=true then(some (.inr false))
 else(some (.inl ())))
 else(some (.inr false)))))
abbrev M5(R_node_budget_right__o0:af->Int->aJ->Option (Bool×aJ)):Prop:=∀(a1:af)(a2:Int)(h0:aJ)(r:Bool×aJ),R_node_budget_right__o0 a1 a2 h0=some r->aZ Tryz.prog 58 [.own 1000000 0,.agg [vi a1.aG,.str a1.av,ls a1.ay,tn4 a1.aj],vi a2] [(1000000,87,[vi h0.dD])] (vb r.1) [(1000000,87,[vi r.2.dD])]
abbrev jL(x0:aJ):Nat×Nat×List D:=(1000000,87,[vi x0.dD])
abbrev Ro(x0:af):=((IntKind.wrap .i64 ((List.length x0.ay:Int)+(List.length x0.aj:Int)))==0)
theorem rB(R_node_budget_right__o0:af->Int->aJ->Option (Bool×aJ))(hR_node_budget_right__o0:M5 R_node_budget_right__o0)(n:Nat)(v2:Int)(v26:Int)(b4:af)(b1000000:aJ)(o:Sum (Unit) (Bool))(h:iT R_node_budget_right__o0 n v2 v26 b4 b1000000=some o)(hQ:(Sum.elim (fun s=>To 111 F0 w0 [(0,.own 1000000 0),(2,vi v2),(4,.own 4 0)] [(4,26,qc6 b4),(jL b1000000)] .normal Q) (fun s=>To 111 F0 w0 [(6,vb s)] [(jL b1000000)] .ret Q)) o):Wp Tryz.prog 111 F0 w0 [(0,.own 1000000 0),(2,vi v2),(4,.own 4 0),(26,vi v26)] [(4,26,qc6 b4),(jL b1000000)] (cB (cA (cB (cB (cF Tryz.f58))))) Q:=by
 unfold iT at h
 refine Wp.block (Wp.seq (rg [0,2,4,26,27] [4,1000000] [(0,.own 1000000 0),(2,vi v2),(4,.own 4 0),(26,vi v26),(27,vb (v26==0))] [(4,26,qc6 b4),(jL b1000000)] (To.ah (cn h (fun h=>?_) (fun h=>?_)))))
 ·refine Wp.seq ?_
  obtain⟨x1,hx1,h⟩:=bI h
  refine rg [6] [1000000] [(6,vb (bif (b4.av==[]) then(Ro b4) else false))] [(jL b1000000)] (To.eq (K':=[(6,vb x1)]) (L':=[(jL b1000000)]) (by cases hx1;rfl) (by cases hx1;rfl) (To.ah (Wp.ret (To.aU (kt [6] [1000000] [(6,vb x1)] [(jL b1000000)] ?_)))))
  cases h
  exact hQ
 ·refine Wp.seq (rg [0,2,4,26,42] [4,1000000] [(0,.own 1000000 0),(2,vi v2),(4,.own 4 0),(26,vi v26),(42,vb (v26==1))] [(4,26,qc6 b4),(jL b1000000)] (To.ah (cn h (fun h=>?_) (fun h=>?_))))
  ·refine Wp.seq (rg [6] [1000000] [(6,vb (Ro b4))] [(jL b1000000)] (To.ah (Wp.ret (To.aU ?_))))
   cases h
   exact hQ
  ·refine Wp.seq (rg [0,2,4,26,52] [4,1000000] [(0,.own 1000000 0),(2,vi v2),(4,.own 4 0),(26,vi v26),(52,vb (v26==2))] [(4,26,qc6 b4),(jL b1000000)] (To.ah (cn h (fun h=>?_) (fun h=>?_))))
   ·refine Wp.seq (rg [0,2,4,62] [4,1000000] [(0,.own 1000000 0),(2,vi v2),(4,.own 4 0),(62,vb (bif (!(b4.av==[])) then true else(decide ((List.length b4.ay:Int)>0))))] [(4,26,qc6 b4),(jL b1000000)] (To.ah (cn h (fun h=>?_) (fun h=>?_))))
    ·refine Wp.seq (rg [6] [1000000] [(6,vb false)] [(jL b1000000)] (To.ah (Wp.ret (To.aU ?_))))
     cases h
     exact hQ
    ·refine Wp.skip (To.bf (kt [0,2,4] [4,1000000] [(0,.own 1000000 0),(2,vi v2),(4,.own 4 0)] [(4,26,qc6 b4),(jL b1000000)] ?_))
     cases h
     exact hQ
   ·refine Wp.seq (rg [0,2,4,63] [4,1000000] [(0,.own 1000000 0),(2,vi v2),(4,.own 4 0),(63,vb (v26==3))] [(4,26,qc6 b4),(jL b1000000)] (To.ah (cn h (fun h=>?_) (fun h=>?_))))
    ·refine Wp.seq ?_
     obtain⟨r2,hr2,h⟩:=aF h
     obtain⟨x3,hx3,h⟩:=bI h
     refine Wp.eH hm hΓ [(25,ls r2)] [0,2,4,96] [4,1000000] (K':=[(0,.own 1000000 0),(2,vi v2),(4,.own 4 0),(96,vb (bif (bif (bif (!(b4.av==[])) then true else(ex6 b4)) then true else(decide ((List.length b4.ay:Int)>b1000000.dD))) then true else((List.length r2:Int) != (List.length b4.ay:Int))))]) (L':=[(4,26,qc6 b4),(jL b1000000)]) (ob:=[(((bif (bif (!(b4.av==[])) then true else(ex6 b4)) then true else(decide ((List.length b4.ay:Int)>b1000000.dD)))==false)=true->CX Tryz.prog 91 [ls b4.ay] (ls r2))]) (by kernel_rfl) (au.cons (fun hg=>cx (Dh n b4.ay _ (jl hg hr2))) au.nil) (To.eq (K':=[(0,.own 1000000 0),(2,vi v2),(4,.own 4 0),(96,vb x3)]) (L':=[(4,26,qc6 b4),(jL b1000000)]) (by cases hx3;rfl) (by cases hx3;rfl) (To.ah (cn h (fun h=>?_) (fun h=>?_))))
     ·refine Wp.seq (rg [6] [1000000] [(6,vb false)] [(jL b1000000)] (To.ah (Wp.ret (To.aU ?_))))
      cases h
      exact hQ
     ·refine Wp.skip (To.bf (kt [0,2,4] [4,1000000] [(0,.own 1000000 0),(2,vi v2),(4,.own 4 0)] [(4,26,qc6 b4),(jL b1000000)] ?_))
      cases h
      exact hQ
    ·refine Wp.seq (rg [6] [1000000] [(6,vb false)] [(jL b1000000)] (To.ah (Wp.ret (To.aU ?_))))
     cases h
     exact hQ
def bE(R_node_budget_right__o0:af->Int->aJ->Option (Bool×aJ))(n:Nat)(v2:Int)(v98:List (af))(v99:Int):Nat->Int->aJ->Option (Sum (aJ) (Bool×aJ))
 |0,_,_=>none
 |k+1,v100,b1000000=>if(decide (v100<v99))=true then(if(decide (0<=v100/\v100<(List.length v98:Int)))=true then((R_node_budget_right__o0 ((v98)[Int.toNat v100]?.getD (af.mk 0 [] [] [])) (IntKind.wrap .i64 (v2+1)) b1000000).bind fun r2 =>
 if(!r2.1)=true then(some (.inr (false,r2.2)))
 else(bE R_node_budget_right__o0 n v2 v98 v99 k (IntKind.wrap .i64 (v100+1)) r2.2)) else none)
 else(some (.inl b1000000))
abbrev vY(x0:List (af))(x1:Int):=((x0)[Int.toNat x1]?.getD zx3)
theorem qT(R_node_budget_right__o0:af->Int->aJ->Option (Bool×aJ))(hR_node_budget_right__o0:M5 R_node_budget_right__o0)(n:Nat)(v2:Int)(v98:List (af))(v99:Int)(k:Nat):∀(v100:Int)(b1000000:aJ)(o:Sum (aJ) (Bool×aJ)),bE R_node_budget_right__o0 n v2 v98 v99 k v100 b1000000=some o->(Sum.elim (fun s=>To 111 F0 w0 [] [(1000000,87,[vi s.dD])] (.exit 1) Q) (fun s=>To 111 F0 w0 [(6,vb s.1)] [(1000000,87,[vi s.2.dD])] .ret Q)) o->WL Tryz.prog 111 F0 w0 [(0,.own 1000000 0),(2,vi v2),(98,dO v98),(99,vi v99),(100,vi v100)] [(jL b1000000)] (cI (cI (cB (cA (cB (cB (cB (cF Tryz.f58)))))))) Q:=by
 induction k with
 |zero=>intro v100 b1000000 o h;cases h
 |succ k ih =>
  intro v100 b1000000 o h hQ
  rw[bE] at h
  refine WL.round (Wp.seq (rg [0,2,98,99,100,101] [1000000] [(0,.own 1000000 0),(2,vi v2),(98,dO v98),(99,vi v99),(100,vi v100),(101,vb (decide (v100<v99)))] [(jL b1000000)] (To.ah (Wp.seq (cn h (fun h=>?_) (fun h=>?_))))))
  ·refine Wp.skip (To.ah (Wp.seq (Wp.block (Wp.seq ?_))))
   obtain⟨hc3,h⟩:=aL h
   refine r0 [0,2,8,98,99,100] [8,1000000] [(0,.own 1000000 0),(2,vi v2),(8,.own 8 0),(98,dO v98),(99,vi v99),(100,vi v100)] [(8,26,[vi ((vY v98 v100).aG),.str ((vY v98 v100).av),ls ((vY v98 v100).ay),tn4 ((vY v98 v100).aj)]),(jL b1000000)] (au.cons hc3 au.nil) (To.ah (Wp.seq ?_))
   obtain⟨r2,hr2,h⟩:=aF h
   refine rb [] 4 ⟨[(1000000,1000000)],[(1000000,1000000)],[.own 1000000 0,.agg [vi ((vY v98 v100).aG),.str ((vY v98 v100).av),ls ((vY v98 v100).ay),tn4 ((vY v98 v100).aj)],vi (IntKind.wrap .i64 (v2+1))],[(jL b1000000)],vb r2.1,[(1000000,87,[vi r2.2.dD])]⟩ [0,2,98,99,100,109] [1000000] [(0,.own 1000000 0),(2,vi v2),(98,dO v98),(99,vi v99),(100,vi v100),(109,vb (!r2.1))] [(1000000,87,[vi r2.2.dD])] ((hR_node_budget_right__o0 (vY v98 v100) (IntKind.wrap .i64 (v2+1)) b1000000 _ hr2)) (To.ah (cn h (fun h=>?_) (fun h=>?_)))
   ·refine Wp.seq (rg [6] [1000000] [(6,vb false)] [(1000000,87,[vi r2.2.dD])] (To.ah (Wp.ret (To.aU (To.aO (To.aO ?_))))))
    cases h
    exact hQ
   ·refine Wp.skip (To.bf (To.ah (rg [0,2,98,99,100] [1000000] [(0,.own 1000000 0),(2,vi v2),(98,dO v98),(99,vi v99),(100,vi (IntKind.wrap .i64 (v100+1)))] [(1000000,87,[vi r2.2.dD])] (kt [0,2,98,99,100] [1000000] [(0,.own 1000000 0),(2,vi v2),(98,dO v98),(99,vi v99),(100,vi (IntKind.wrap .i64 (v100+1)))] [(1000000,87,[vi r2.2.dD])] (To.again ?_)))))
    exact ih (IntKind.wrap .i64 (v100+1)) r2.2 _ h hQ
  ·refine Wp.exit (To.dE (To.dE (kt [] [1000000] [] [(jL b1000000)] ?_)))
   cases h
   exact hQ
def eF(R_node_budget_right__o0:af->Int->aJ->Option (Bool×aJ))(n:Nat)(a1:af)(a2:Int)(h0:aJ):Option (Bool×aJ) :=
 if(bif (decide ((IntKind.wrap .i64 (h0.dD-1))<0)) then true else(decide (a2>12)))=true then(some (false,(aJ.mk (IntKind.wrap .i64 (h0.dD-1)))))
 else((iT R_node_budget_right__o0 n a2 a1.aG a1 (aJ.mk (IntKind.wrap .i64 (h0.dD-1)))).bind fun o1 =>
 (Sum.elim (fun o1=>(bE R_node_budget_right__o0 n a2 a1.aj (List.length a1.aj:Int) n 0 (aJ.mk (IntKind.wrap .i64 (h0.dD-1)))).bind fun o2 =>
 (Sum.elim (fun o2=>some (true,o2)) (fun o2=>some (o2.1,o2.2))) o2) (fun o1=>some (o1,(aJ.mk (IntKind.wrap .i64 (h0.dD-1)))))) o1)
theorem rF(R_node_budget_right__o0:af->Int->aJ->Option (Bool×aJ))(hR_node_budget_right__o0:M5 R_node_budget_right__o0)(n:Nat)(a1:af)(a2:Int)(h0:aJ)(r:Bool×aJ)(h:eF R_node_budget_right__o0 n a1 a2 h0=some r):aZ Tryz.prog 58 [.own 1000000 0,.agg (qc6 a1),vi a2] [(1000000,87,[vi h0.dD])] (vb r.1) [(1000000,87,[vi r.2.dD])]:=by
 unfold eF at h
 refine bo Tryz.f58 rfl fun F0 w0=>?_
 refine Wp.seq (rg [0,2,4] [4,1000000] [(0,.own 1000000 0),(2,vi a2),(4,.own 4 0)] [(4,26,qc6 a1),(1000000,87,[vi h0.dD])] (To.ah (Wp.seq (Wp.seq (rg [0,2,4] [4,1000000] [(0,.own 1000000 0),(2,vi a2),(4,.own 4 0)] [(4,26,qc6 a1),(1000000,87,[vi (IntKind.wrap .i64 (h0.dD-1))])] (To.ah (Wp.seq (rg [0,2,4,24] [4,1000000] [(0,.own 1000000 0),(2,vi a2),(4,.own 4 0),(24,vb (bif (decide ((IntKind.wrap .i64 (h0.dD-1))<0)) then true else(decide (a2>12))))] [(4,26,qc6 a1),(1000000,87,[vi (IntKind.wrap .i64 (h0.dD-1))])] (To.ah (cn h (fun h=>?_) (fun h=>?_)))))))))))
 ·refine Wp.seq (rg [6] [1000000] [(6,vb false)] [(1000000,87,[vi (IntKind.wrap .i64 (h0.dD-1))])] (To.ah (Wp.ret (To.aO ?_))))
  cases h
  exact To.fl hΓ [1000000] (by kernel_rfl) (by kernel_rfl)
 ·refine Wp.skip (To.ah (Wp.seq (Wp.seq (rg [0,2,4,26] [4,1000000] [(0,.own 1000000 0),(2,vi a2),(4,.own 4 0),(26,vi a1.aG)] [(4,26,qc6 a1),(1000000,87,[vi (IntKind.wrap .i64 (h0.dD-1))])] (To.ah ?_)))))
  obtain⟨o1,ho1,h⟩:=aF h
  refine kw [0,2,4,26] [4,1000000] [(0,.own 1000000 0),(2,vi a2),(4,.own 4 0),(26,vi a1.aG)] [(4,26,qc6 a1),(1000000,87,[vi (IntKind.wrap .i64 (h0.dD-1))])] (rB R_node_budget_right__o0 hR_node_budget_right__o0 n a2 a1.aG a1 (aJ.mk (IntKind.wrap .i64 (h0.dD-1))) o1 ho1 ?_)
  rcases o1 with o1|o1
  ·replace h:=iU h
   refine To.ah (Wp.seq (Wp.seq (rg [0,2,98,99,100] [1000000] [(0,.own 1000000 0),(2,vi a2),(98,tn4 a1.aj),(99,vi (List.length a1.aj:Int)),(100,vi 0)] [(1000000,87,[vi (IntKind.wrap .i64 (h0.dD-1))])] (To.ah (Wp.block ?_)))))
   obtain⟨o2,ho2,h⟩:=aF h
   refine kw [0,2,98,99,100] [1000000] [(0,.own 1000000 0),(2,vi a2),(98,tn4 a1.aj),(99,vi (List.length a1.aj:Int)),(100,vi 0)] [(1000000,87,[vi (IntKind.wrap .i64 (h0.dD-1))])] (Wp.weak (K':=[(0,.own 1000000 0),(2,vi a2),(98,dO a1.aj),(99,vi (List.length a1.aj:Int)),(100,vi 0)]) (L':=[(1000000,87,[vi (IntKind.wrap .i64 (h0.dD-1))])]) (.cons (.refl _) (.cons (.refl _) (.cons (.opn _ _ _ _) (.cons (.refl _) (.cons (.refl _) .nil))))) (.cons (.cons (.refl _) .nil) .nil) (Wp.jB (qT R_node_budget_right__o0 hR_node_budget_right__o0 n a2 a1.aj (List.length a1.aj:Int) n 0 (aJ.mk (IntKind.wrap .i64 (h0.dD-1))) o2 ho2 ?_)))
   rcases o2 with o2|o2
   ·replace h:=iU h
    refine To.iI (To.ah (Wp.seq (rg [6] [1000000] [(6,vb true)] [(1000000,87,[vi o2.dD])] (To.ah (Wp.ret ?_)))))
    cases h
    exact To.fl hΓ [1000000] (by kernel_rfl) (by kernel_rfl)
   ·replace h:=iV h
    refine To.aU (To.aO ?_)
    cases h
    exact To.fl hΓ [1000000] (by kernel_rfl) (by kernel_rfl)
  ·replace h:=iV h
   refine To.aO ?_
   cases h
   exact To.fl hΓ [1000000] (by kernel_rfl) (by kernel_rfl)
def cY:Nat->af->Int->aJ->Option (Bool×aJ)
 |0=>fun _ _ _=>none
 |n+1=>eF (cY n) n
theorem tj(n:Nat):∀(a1:af)(a2:Int)(h0:aJ)(r:Bool×aJ),cY n a1 a2 h0=some r->aZ Tryz.prog 58 [.own 1000000 0,.agg (qc6 a1),vi a2] [(1000000,87,[vi h0.dD])] (vb r.1) [(1000000,87,[vi r.2.dD])]:=by
 induction n with
 |zero=>intro a1 a2 h0 r h;cases h
 |succ n ih=>exact fun a1 a2 h0 r h=>rF (cY n) ih n a1 a2 h0 r h
def jM(n:Nat)(a0:af):Option (Bool) :=
 (cY n a0 1 (aJ.mk 2000)).bind fun r1 =>
 some r1.1
theorem wH(n:Nat)(a0:af)(r:Bool)(h:jM n a0=some r):bg Tryz.prog 26 [.agg (qc6 a0)] (vb r):=by
 unfold jM at h
 refine xo Tryz.f26 rfl fun F0 w0 _=>?_
 refine Wp.seq (rg [1] [1] [(1,.own 1 0)] [(1,26,qc6 a0)] (To.ah (Wp.seq (rg [1,3] [1,3] [(1,.own 1 0),(3,.own 3 0)] [(1,26,qc6 a0),(3,87,[vi 2000])] (To.ah (Wp.seq ?_))))))
 obtain⟨r1,hr1,h⟩:=aF h
 refine rb [] 1 ⟨[(1000000,3)],[(1000000,3)],[.own 1000000 0,.agg (qc6 a0),vi 1],[(1000000,87,[vi 2000])],vb r1.1,[(1000000,87,[vi r1.2.dD])]⟩ [2] [] [(2,vb r1.1)] [] ((tj n a0 1 (aJ.mk 2000) _ hr1)) (To.ah (Wp.ret ?_))
 cases h
 exact To.done hΓ (by kernel_rfl)
def gI(n:Nat)(a0:Bs):Option (af×Int) :=
 (aV n (ai.mk a0 0 false)).bind fun r1 =>
 ((if(r1.2.2.bT==false)=true then dP n r1.2.2 else some (0,r1.2.2))).bind fun r2 =>
 if(bif (bif r1.2.2.bT then true else(r2.1 != 0)) then true else(decide (r2.2.aC<(List.length a0:Int))))=true then(some ((af.mk 0 [] [] []),3))
 else((jM n r1.1).bind fun r3 =>
 if(!r3)=true then(some ((af.mk 0 [] [] []),9))
 else(some (r1.1,0)))
theorem Ez(n:Nat)(a0:Bs)(r:af×Int)(h:gI n a0=some r):bg Tryz.prog 90 [.str a0] (.tup [.agg (qc6 r.1),vi r.2]):=by
 unfold gI at h
 refine xo Tryz.f90 rfl fun F0 w0 _=>?_
 refine Wp.seq (rg [0,2] [2] [(0,.str a0),(2,.own 2 0)] [(2,26,[vi 0,.str [],.val (.slice none 0 0),.val (.slice none 0 0)])] (To.ah (Wp.seq (rg [0,2,4] [2,4] [(0,.str a0),(2,.own 2 0),(4,.own 4 0)] [(2,26,[vi 0,.str [],.val (.slice none 0 0),.val (.slice none 0 0)]),(4,137,[.str a0,vi 0,vb false])] (To.ah (Wp.seq ?_))))))
 obtain⟨r1,hr1,h⟩:=aF h
 refine rb [] 0 ⟨[(1000000,4)],[(1000000,4)],[.own 1000000 0],[(1000000,137,[.str a0,vi 0,vb false])],.tup [.agg (qc6 r1.1),vb r1.2.1],[(1000000,137,aI r1.2.2)]⟩ [0,2,4,5] [2,4,5] [(0,.str a0),(2,.own 2 0),(4,.own 4 0),(5,.own 5 0)] [(2,26,[vi 0,.str [],.val (.slice none 0 0),.val (.slice none 0 0)]),(4,137,aI r1.2.2),(5,26,qc6 r1.1)] ((tZ n (ai.mk a0 0 false) _ hr1)) (To.ah (Wp.seq (Wp.block (Wp.seq ?_))))
 obtain⟨r2,hr2,h⟩:=aF h
 refine rr [] [] [(3,⟨[(1000000,4)],[(1000000,4)],[.own 1000000 0],[(1000000,137,aI r1.2.2)],.val (.int .u8 r2.1),[(1000000,137,aI r2.2)]⟩)] [2,5,13] [2,5] [(2,.own 2 0),(5,.own 5 0),(13,vb (bif (bif r1.2.2.bT then true else(r2.1 != 0)) then true else(decide (r2.2.aC<(List.length a0:Int)))))] [(2,26,[vi 0,.str [],.val (.slice none 0 0),.val (.slice none 0 0)]),(5,26,qc6 r1.1)] [((r1.2.2.bT==false)=true->rO (aZ Tryz.prog) 113 [.own 4 0] [some (137,aI r1.2.2)] ⟨[(1000000,4)],[(1000000,4)],[.own 1000000 0],[(1000000,137,aI r1.2.2)],.val (.int .u8 r2.1),[(1000000,137,aI r2.2)]⟩),((r1.2.2.bT==false)=false->uX [(4,137,aI r1.2.2)] ⟨[(1000000,4)],[(1000000,4)],[.own 1000000 0],[(1000000,137,aI r1.2.2)],.val (.int .u8 r2.1),[(1000000,137,aI r2.2)]⟩)] (au.cons (fun hg=>⟨(jd n r1.2.2 _ (jl hg hr2)),by kernel_rfl,by kernel_rfl⟩) (au.cons (fun hg=>by cases zo hg hr2;exact MP (by kernel_rfl)) au.nil)) ?_
 refine To.ah (cn h (fun h=>?_) (fun h=>?_))
 ·refine Wp.seq (rg [2,3] [2] [(2,.own 2 0),(3,vi 3)] [(2,26,[vi 0,.str [],.val (.slice none 0 0),.val (.slice none 0 0)])] (To.ah (Wp.ret (To.aU (To.aO (To.weak (K':=[(2,.own 2 0),(3,vi 3)]) (L':=[(2,26,[vi 0,.str [],ls [],tn4 []])]) (.cons (.refl _) (.cons (.refl _) .nil)) (.cons (.cons (.refl _) (.cons (.refl _) (.cons (.zero _ _) (.cons (.ik _ _ _) .nil)))) .nil) ?_))))))
  cases h
  exact To.done hΓ (by kernel_rfl)
 ·refine Wp.seq ?_
  obtain⟨r3,hr3,h⟩:=aF h
  refine rc [] 1 [2,5,28] [2,5] [(2,.own 2 0),(5,.own 5 0),(28,vb (!r3))] [(2,26,[vi 0,.str [],.val (.slice none 0 0),.val (.slice none 0 0)]),(5,26,qc6 r1.1)] (wH n r1.1 _ hr3) (To.ah (cn h (fun h=>?_) (fun h=>?_)))
  ·refine Wp.seq (rg [2,3] [2] [(2,.own 2 0),(3,vi 9)] [(2,26,[vi 0,.str [],.val (.slice none 0 0),.val (.slice none 0 0)])] (To.ah (Wp.ret (To.aU (To.aO (To.weak (K':=[(2,.own 2 0),(3,vi 9)]) (L':=[(2,26,[vi 0,.str [],ls [],tn4 []])]) (.cons (.refl _) (.cons (.refl _) .nil)) (.cons (.cons (.refl _) (.cons (.refl _) (.cons (.zero _ _) (.cons (.ik _ _ _) .nil)))) .nil) ?_))))))
   cases h
   exact To.done hΓ (by kernel_rfl)
  ·refine Wp.skip (To.bf (To.ah (Wp.seq (rg [2,3] [2] [(2,.own 2 0),(3,vi 0)] [(2,26,qc6 r1.1)] (To.ah (Wp.ret ?_))))))
   cases h
   exact To.done hΓ (by kernel_rfl)
def fQ(n:Nat)(v1:Int)(v2:Bs)(v8:Int)(v25:Bool)(b6:af)(b7:af)(b1000000:ak):Option (Int×af) :=
 if v25=true then((gI n v2).bind fun r3 =>
 some (r3.2,r3.1))
 else(some (v8,b7))
theorem qm(n:Nat)(v1:Int)(v2:Bs)(v8:Int)(v25:Bool)(b6:af)(b7:af)(b1000000:ak)(o:Int×af)(h:fQ n v1 v2 v8 v25 b6 b7 b1000000=some o)(hQ:To 38 F0 w0 [(0,.own 1000000 0),(1,vi v1),(6,.own 6 0),(7,.own 7 0),(8,vi o.1)] [(6,26,qc6 b6),(7,26,qc6 o.2),(fq b1000000),(iC b1000000)] .normal Q):Wp Tryz.prog 38 F0 w0 [(0,.own 1000000 0),(1,vi v1),(2,.str v2),(6,.own 6 0),(7,.own 7 0),(8,vi v8),(25,vb v25)] [(6,26,qc6 b6),(7,26,qc6 b7),(fq b1000000),(iC b1000000)] (cB (cA (cB (cB (cF Tryz.f57))))) Q:=by
 unfold fQ at h
 refine cn h (fun h=>?_) (fun h=>?_)
 ·obtain⟨r3,hr3,h⟩:=aF h
  refine rc [] 1 [0,1,6,7,8] [6,7,504000,1000000] [(0,.own 1000000 0),(1,vi v1),(6,.own 6 0),(7,.own 7 0),(8,vi r3.2)] [(6,26,qc6 b6),(7,26,qc6 r3.1),(fq b1000000),(iC b1000000)] (Ez n v2 _ hr3) (kt [0,1,6,7,8] [6,7,504000,1000000] [(0,.own 1000000 0),(1,vi v1),(6,.own 6 0),(7,.own 7 0),(8,vi r3.2)] [(6,26,qc6 b6),(7,26,qc6 r3.1),(fq b1000000),(iC b1000000)] ?_)
  cases h
  exact hQ
 ·refine Wp.skip (kt [0,1,6,7,8] [6,7,504000,1000000] [(0,.own 1000000 0),(1,vi v1),(6,.own 6 0),(7,.own 7 0),(8,vi v8)] [(6,26,qc6 b6),(7,26,qc6 b7),(fq b1000000),(iC b1000000)] ?_)
  cases h
  exact hQ
def dI(n:Nat)(a1:Int)(a2:Bs)(h0:ak):Option (af×ak) :=
 (dN n a2 false).bind fun r1 =>
 if((!((!(a2==[]))==true)||decide (0<=(0:Int)/\(0:Int)<(List.length a2:Int))))=true then(if((!((((((a2)[Int.toNat 0]?.getD 0).toNat:Int)==91)==false)&&((!(a2==[]))==true))||decide (0<=(0:Int)/\(0:Int)<(List.length a2:Int))))=true then(aR ((bif (!(a2==[])) then(bif ((((a2)[Int.toNat 0]?.getD 0).toNat:Int)==91) then true else((((a2)[Int.toNat 0]?.getD 0).toNat:Int)==123)) else false):Bool) fun x2 =>
 (fQ n a1 a2 r1.2 x2 (af.mk 0 [] [] []) r1.1 h0).bind fun o3 =>
 if(o3.1 != 0)=true then(aR (df a1 o3.1 h0) fun r4 =>
 some (r4.1,r4.2))
 else(some (o3.2,h0))) else none) else none
theorem mh(n:Nat)(a1:Int)(a2:Bs)(h0:ak)(r:af×ak)(h:dI n a1 a2 h0=some r):aZ Tryz.prog 57 [.own 1000000 0,vi a1,.str a2] [(1000000,46,aM 1010000 h0),(1010000,50,[aK h0.f_l])] (.agg (qc6 r.1)) [(200,50,[aK r.2.f_l]),(1000000,46,aM 200 r.2)]:=by
 unfold dI at h
 refine bo Tryz.f57 rfl fun F0 w0=>?_
 refine nw [0,1,2] [1000000,1010000] [(1010000,504000)] [0,1,2] [504000,1000000] [(0,.own 1000000 0),(1,vi a1),(2,.str a2)] [(504000,50,[aK h0.f_l]),(1000000,46,aM 504000 h0)] (Wp.seq (rg [0,1,2,6] [6,504000,1000000] [(0,.own 1000000 0),(1,vi a1),(2,.str a2),(6,.own 6 0)] [(6,26,[vi 0,.str [],.val (.slice none 0 0),.val (.slice none 0 0)]),(504000,50,[aK h0.f_l]),(1000000,46,aM 504000 h0)] (To.ah (Wp.seq ?_))))
 obtain⟨r1,hr1,h⟩:=aF h
 refine rc [] 1 [0,1,2,6,7,8] [6,7,504000,1000000] [(0,.own 1000000 0),(1,vi a1),(2,.str a2),(6,.own 6 0),(7,.own 7 0),(8,vi r1.2)] [(6,26,[vi 0,.str [],.val (.slice none 0 0),.val (.slice none 0 0)]),(7,26,qc6 r1.1),(504000,50,[aK h0.f_l]),(1000000,46,aM 504000 h0)] (u6 n a2 false _ hr1) (To.ah (Wp.seq (Wp.seq ?_)))
 obtain⟨hc5,h⟩:=aL h
 obtain⟨hc6,h⟩:=aL h
 obtain⟨x2,hx2,h⟩:=bI h
 refine r0 [0,1,2,6,7,8,25] [6,7,504000,1000000] [(0,.own 1000000 0),(1,vi a1),(2,.str a2),(6,.own 6 0),(7,.own 7 0),(8,vi r1.2),(25,vb (bif (!(a2==[])) then(bif ((pI a2)==91) then true else((pI a2)==123)) else false))] [(6,26,[vi 0,.str [],.val (.slice none 0 0),.val (.slice none 0 0)]),(7,26,qc6 r1.1),(504000,50,[aK h0.f_l]),(1000000,46,aM 504000 h0)] (au.cons hc5 (au.cons hc6 au.nil)) (To.eq (K':=[(0,.own 1000000 0),(1,vi a1),(2,.str a2),(6,.own 6 0),(7,.own 7 0),(8,vi r1.2),(25,vb x2)]) (L':=[(6,26,[vi 0,.str [],.val (.slice none 0 0),.val (.slice none 0 0)]),(7,26,qc6 r1.1),(504000,50,[aK h0.f_l]),(1000000,46,aM 504000 h0)]) (by cases hx2;rfl) (by cases hx2;rfl) (To.ah ?_))
 obtain⟨o3,ho3,h⟩:=aF h
 refine kw [0,1,2,6,7,8,25] [6,7,504000,1000000] [(0,.own 1000000 0),(1,vi a1),(2,.str a2),(6,.own 6 0),(7,.own 7 0),(8,vi r1.2),(25,vb x2)] [(6,26,[vi 0,.str [],.val (.slice none 0 0),.val (.slice none 0 0)]),(7,26,qc6 r1.1),(504000,50,[aK h0.f_l]),(1000000,46,aM 504000 h0)] (Wp.weak (K':=[(0,.own 1000000 0),(1,vi a1),(2,.str a2),(6,.own 6 0),(7,.own 7 0),(8,vi r1.2),(25,vb x2)]) (L':=[(6,26,[vi 0,.str [],ls [],tn4 []]),(7,26,qc6 r1.1),(504000,50,[aK h0.f_l]),(1000000,46,aM 504000 h0)]) (.cons (.refl _) (.cons (.refl _) (.cons (.refl _) (.cons (.refl _) (.cons (.refl _) (.cons (.refl _) (.cons (.refl _) .nil))))))) (.cons (.cons (.refl _) (.cons (.refl _) (.cons (.zero _ _) (.cons (.ik _ _ _) .nil)))) (.cons (.cons (.refl _) (.cons (.refl _) (.cons (.refl _) (.cons (.refl _) .nil)))) (.cons (.cons (.refl _) .nil) (.cons (.cons (.refl _) (.cons (.refl _) (.cons (.refl _) (.cons (.refl _) .nil)))) .nil)))) (qm n a1 a2 r1.2 x2 zx3 r1.1 h0 o3 ho3 (To.ah (Wp.seq (Wp.seq (rg [0,1,6,7,8,32] [6,7,504000,1000000] [(0,.own 1000000 0),(1,vi a1),(6,.own 6 0),(7,.own 7 0),(8,vi o3.1),(32,vb (o3.1 != 0))] [(6,26,[vi 0,.str [],ls [],tn4 []]),(7,26,qc6 o3.2),(504000,50,[aK h0.f_l]),(1000000,46,aM 504000 h0)] (To.ah (cn h (fun h=>?_) (fun h=>?_)))))))))
 ·refine Wp.seq ?_
  obtain⟨r4,hr4,h⟩:=bI h
  refine rb [] 3 ⟨[(1000000,1000000),(1010000,504000)],[(200,504000),(1000000,1000000)],[.own 1000000 0,vi a1,vi o3.1],[(1000000,46,aM 1010000 h0),(1010000,50,[aK h0.f_l])],.agg (qc6 r4.1),[(200,50,[aK r4.2.f_l]),(1000000,46,aM 200 r4.2)]⟩ [6] [6,504000,1000000] [(6,.own 6 0)] [(6,26,qc6 r4.1),(504000,50,[aK r4.2.f_l]),(1000000,46,aM 504000 r4.2)] ((fu a1 o3.1 h0 _ hr4)) (To.ah (Wp.ret (To.aO (nt [6] [6,504000,1000000] [(504000,200)] [6] [6,200,1000000] [(6,.own 6 0)] [(6,26,qc6 r4.1),(200,50,[aK r4.2.f_l]),(1000000,46,aM 200 r4.2)] ?_))))
  cases h
  exact To.fl hΓ [200,1000000] (by kernel_rfl) (by kernel_rfl)
 ·refine Wp.skip (To.ah (Wp.seq (rg [6] [6,504000,1000000] [(6,.own 6 0)] [(6,26,qc6 o3.2),(504000,50,[aK h0.f_l]),(1000000,46,aM 504000 h0)] (To.ah (Wp.ret (nt [6] [6,504000,1000000] [(504000,200)] [6] [6,200,1000000] [(6,.own 6 0)] [(6,26,qc6 o3.2),(200,50,[aK h0.f_l]),(1000000,46,aM 200 h0)] ?_))))))
  cases h
  exact To.fl hΓ [200,1000000] (by kernel_rfl) (by kernel_rfl)
def dF(R_block_reader_block__o0_s2:ak->Option (af×ak))(n:Nat)(v1:Int)(v7:Bs)(v8:Bs)(v92:Bool)(b4:af)(b5:af)(b6:ax)(b10:af)(b1000000:ak):Option (af×ak) :=
 if v92=true then((dI n b6.eP v8 b1000000).bind fun r6 =>
 some (r6.1,r6.2))
 else((eO R_block_reader_block__o0_s2 n v1 true b1000000).bind fun r7 =>
 some (r7.1,r7.2))
end Go.Proofs.YtefojkdckfidcaaGreatDoor.M
