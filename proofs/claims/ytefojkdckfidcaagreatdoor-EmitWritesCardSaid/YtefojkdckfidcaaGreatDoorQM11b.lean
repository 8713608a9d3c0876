import Derived.Test.YtefojkdckfidcaaGreatDoorQM11a
set_option linter.all false
namespace Go.Proofs.YtefojkdckfidcaaGreatDoor.M
open Go.RowKit Go.Proofs.YtefojkdckfidcaaGreatDoor.RX
set_option maxRecDepth 100000
def xC(n:Nat)(a0:aG)(a1:Int):Option (aG) :=
 if(bif (decide (a1<0)) then true else(decide (a1>(List.length a0.aI:Int))))=true then some a0
 else(if(decide (0<=a1/\a1<=(List.length a0.aI:Int)))=true then(bM ((IntKind.wrap .i64 ((IntKind.wrap .i64 (a0.bE+(List.length a0.aI:Int)))-(List.length (Lib.trimLeftB (List.drop (Int.toNat a1) a0.aI) 32):Int))):Int) fun x1 =>
 some (aG.mk a0.fD x1 (Lib.trimLeftB (List.drop (Int.toNat a1) a0.aI) 32))) else none)
abbrev lq(x:aG):List D:=[vi x.fD,vi x.bE,.str x.aI]
abbrev zR(x0:Int)(x1:aG):=(Lib.trimLeftB (List.drop (Int.toNat x0) x1.aI) 32)
theorem D3(n:Nat)(a0:aG)(a1:Int)(r:aG)(h:xC n a0 a1=some r):aT Tryz.prog 87 [.agg (lq a0),vi a1] (.agg (lq r)):=by
 unfold xC at h
 refine xo Tryz.f87 rfl fun F0 w0 _=>?_
 refine Wp.seq (rg [1,2,4] [2,4] [(1,vi a1),(2,.own 2 0),(4,.own 4 0)] [(2,50,lq a0),(4,50,[vi 0,vi 0,.str []])] (To.ah (Wp.seq (Wp.seq (rg [1,2,4,14] [2,4] [(1,vi a1),(2,.own 2 0),(4,.own 4 0),(14,vb (bif (decide (a1<0)) then true else(decide (a1>(List.length a0.aI:Int)))))] [(2,50,lq a0),(4,50,[vi 0,vi 0,.str []])] (To.ah (cn h (fun h=>?_) (fun h=>?_))))))))
 ·refine Wp.seq (rg [4] [4] [(4,.own 4 0)] [(4,50,lq a0)] (To.ah (Wp.ret (To.aL ?_))))
  cases h
  exact To.done hΓ (by kernel_rfl)
 ·refine Wp.skip (To.ah (Wp.seq ?_))
  obtain⟨hc2,h⟩:=aF h
  refine rr [] [(4,.str (zR a1 a0))] [] [2,4,5] [2,4] [(2,.own 2 0),(4,.own 4 0),(5,.str (zR a1 a0))] [(2,50,lq a0),(4,50,[vi 0,vi 0,.str []])] [_,(true=true->CX Tryz.prog 34 [.str (List.drop (Int.toNat a1) a0.aI),.str [32]] (.str (zR a1 a0)))] (aj.cons hc2 (aj.cons (fun _=>cx (Sh.sO (by decide))) aj.nil)) (To.ah (Wp.seq ?_))
  obtain⟨x1,hx1,h⟩:=aW h
  refine rg [4] [4] [(4,.own 4 0)] [(4,50,[vi a0.fD,vi (IntKind.wrap .i64 ((IntKind.wrap .i64 (a0.bE+(List.length a0.aI:Int)))-(List.length (zR a1 a0):Int))),.str (zR a1 a0)])] (To.eq (K':=[(4,.own 4 0)]) (L':=[(4,50,[vi a0.fD,vi x1,.str (zR a1 a0)])]) (by cases hx1;rfl) (by cases hx1;rfl) (To.ah (Wp.ret ?_)))
  cases h
  exact To.done hΓ (by kernel_rfl)
def nN(n:Nat)(v0:Bs)(v5:List (aG))(v6:Int):Option (Sum (Bs×(List (aG))) (Int×Int)) :=
 if(decide (List.length v0<4294967281))=true then(bM ((IntKind.wrap .i64 ((List.length ((Lib.cut v0 ([10]:Bs)).1):Int)-(List.length (Lib.trimLeftB ((Lib.cut v0 ([10]:Bs)).1) 32):Int))):Int) fun x2 =>
 if(decide (0<=x2/\x2<=(List.length ((Lib.cut v0 ([10]:Bs)).1):Int)))=true then((yb n (List.drop (Int.toNat x2) ((Lib.cut v0 ([10]:Bs)).1))).bind fun r3 =>
 bM ((bif (!r3.2) then true else(bif (x2==0) then(bif (r3.1==sU) then true else(r3.1==sQ)) else false)):Bool) fun x4 =>
 if x4=true then(some (.inr (v6,3)))
 else(if(!(r3.1==[]))=true then(if(decide ((List.length v5+List.length ([(aG.mk v6 x2 r3.1)]:List (aG)))*(32+1)<=limit))=true then(some (.inl ((Lib.cut v0 ([10]:Bs)).2.1,(v5++([(aG.mk v6 x2 r3.1)]:List (aG)))))) else none)
 else(some (.inl ((Lib.cut v0 ([10]:Bs)).2.1,v5))))) else none) else none
abbrev eU:aG:=aG.mk 0 0 []
abbrev aK(l:List (aG)):D:=.aO false (α:=aG) eU kP l
abbrev vP(l:List (aG)):D:=.recs (α:=aG) eU kP l
abbrev il(x0:Bs):=(Lib.cut x0 ([10]:Bs))
variable {F0:Fz} {w0:Pt Tryz.prog} {Q:Exit->Act->World->Prop}
theorem vY(n:Nat)(v0:Bs)(v5:List (aG))(v6:Int)(o:Sum (Bs×(List (aG))) (Int×Int))(h:nN n v0 v5 v6=some o)(hQ:(Sum.elim (fun s=>To 65 F0 w0 [(0,.str s.1),(5,.row 1005),(6,vi v6)] [(1005,50,[aK s.2])] .normal Q) (fun s=>To 65 F0 w0 [(2,.val (.slice none 0 0)),(3,vi s.1),(4,vi s.2)] [] .ret Q)) o):Wp Tryz.prog 65 F0 w0 [(0,.str v0),(5,.row 1005),(6,vi v6)] [(1005,50,[aK v5])] (cA (cB (cI (cI (cB (cA (cB (cB (cB (cF Tryz.f23)))))))))) Q:=by
 unfold nN at h
 refine Wp.block (Wp.seq ?_)
 obtain⟨u1,h⟩:=aF h
 refine rr [] [(1,.tup [.str ((il v0).1),.str ((il v0).2.1),vb ((il v0).2.2)])] [] [5,6,7,8] [1005] [(5,.row 1005),(6,vi v6),(7,.str ((il v0).1)),(8,.str ((il v0).2.1))] [(1005,50,[aK v5])] [(true=true->CX Tryz.prog 53 [.str v0,.str [10]] (.tup [.str ((il v0).1),.str ((il v0).2.1),vb ((il v0).2.2)]))] (aj.cons (fun _=>cx (Sh.L9 u1)) aj.nil) (To.ah (Wp.seq (rg [0,5,6,7] [1005] [(0,.str ((il v0).2.1)),(5,.row 1005),(6,vi v6),(7,.str ((il v0).1))] [(1005,50,[aK v5])] (To.ah (Wp.seq ?_)))))
 obtain⟨x2,hx2,h⟩:=aW h
 refine rr [] [(3,.str (Lib.trimLeftB ((il v0).1) 32))] [] [0,5,6,7,10] [1005] [(0,.str ((il v0).2.1)),(5,.row 1005),(6,vi v6),(7,.str ((il v0).1)),(10,vi (IntKind.wrap .i64 ((List.length ((il v0).1):Int)-(List.length (Lib.trimLeftB ((il v0).1) 32):Int))))] [(1005,50,[aK v5])] [(true=true->CX Tryz.prog 34 [.str ((il v0).1),.str [32]] (.str (Lib.trimLeftB ((il v0).1) 32)))] (aj.cons (fun _=>cx (Sh.sO (by decide))) aj.nil) (To.eq (K':=[(0,.str ((il v0).2.1)),(5,.row 1005),(6,vi v6),(7,.str ((il v0).1)),(10,vi x2)]) (L':=[(1005,50,[aK v5])]) (by cases hx2;rfl) (by cases hx2;rfl) (To.ah (Wp.seq ?_)))
 obtain⟨hc6,h⟩:=aF h
 obtain⟨r3,hr3,h⟩:=ay h
 refine rr [] [(3,.tup [.str r3.1,vb r3.2])] [] [0,5,6,10,11,12] [1005] [(0,.str ((il v0).2.1)),(5,.row 1005),(6,vi v6),(10,vi x2),(11,.str r3.1),(12,vb r3.2)] [(1005,50,[aK v5])] [_,_] (aj.cons hc6 (aj.cons (c1 (DK n (List.drop (Int.toNat x2) ((il v0).1)) _ hr3)) aj.nil)) (To.ah (Wp.seq (Wp.seq ?_)))
 obtain⟨x4,hx4,h⟩:=aW h
 refine rg [0,5,6,10,11,53] [1005] [(0,.str ((il v0).2.1)),(5,.row 1005),(6,vi v6),(10,vi x2),(11,.str r3.1),(53,vb (bif (!r3.2) then true else(bif (x2==0) then(bif (r3.1==sU) then true else(r3.1==sQ)) else false)))] [(1005,50,[aK v5])] (To.eq (K':=[(0,.str ((il v0).2.1)),(5,.row 1005),(6,vi v6),(10,vi x2),(11,.str r3.1),(53,vb x4)]) (L':=[(1005,50,[aK v5])]) (by cases hx4;rfl) (by cases hx4;rfl) (To.ah (cn h (fun h=>?_) (fun h=>?_))))
 ·refine Wp.seq (rg [2,3,4] [] [(2,.val (.slice none 0 0)),(3,vi v6),(4,vi 3)] [] (To.ah (Wp.ret (To.aL (To.aR ?_)))))
  cases h
  exact hQ
 ·refine Wp.skip (To.ah (Wp.seq (rg [0,5,6,10,11,56] [1005] [(0,.str ((il v0).2.1)),(5,.row 1005),(6,vi v6),(10,vi x2),(11,.str r3.1),(56,vb (!(r3.1==[])))] [(1005,50,[aK v5])] (To.ah (cn h (fun h=>?_) (fun h=>?_))))))
  ·obtain⟨hc5,h⟩:=aF h
   refine rr [] [(5,vP [(aG.mk v6 x2 r3.1)]),(6,vP (v5++([(aG.mk v6 x2 r3.1)]:List (aG))))] [] [0,5,6] [63] [(0,.str ((il v0).2.1)),(5,.row 63),(6,vi v6)] [(63,50,[aK (v5++([(aG.mk v6 x2 r3.1)]:List (aG)))])] [(dC 3 [vi v6,vi x2,.str r3.1] 1 (vP [(aG.mk v6 x2 r3.1)])/\aQ (vP [(aG.mk v6 x2 r3.1)])),_,(eQ eU kP v5 (List.flatMap kP ([(aG.mk v6 x2 r3.1)]:List (aG))) (List.length ([(aG.mk v6 x2 r3.1)]:List (aG))) (vP (v5++([(aG.mk v6 x2 r3.1)]:List (aG))))/\aQ (vP (v5++([(aG.mk v6 x2 r3.1)]:List (aG)))))] (aj.cons (fL (by kernel_rfl) rfl (by kernel_rfl) (je _)) (aj.cons hc5 (aj.cons (eG rfl rfl (je _)) aj.nil))) (To.aS (nt [0,5,6] [63] [(63,1005)] [0,5,6] [1005] [(0,.str ((il v0).2.1)),(5,.row 1005),(6,vi v6)] [(1005,50,[aK (v5++([(aG.mk v6 x2 r3.1)]:List (aG)))])] ?_))
   cases h
   exact hQ
  ·refine Wp.skip (To.aS (kt [0,5,6] [1005] [(0,.str ((il v0).2.1)),(5,.row 1005),(6,vi v6)] [(1005,50,[aK v5])] ?_))
   cases h
   exact hQ
def lH(n:Nat):Nat->Bs->(List (aG))->Int->Option (Sum ((List (aG))) (Int×Int))
 |0,_,_,_=>none
 |k+1,v0,v5,v6=>if(!(v0==[]))=true then((nN n v0 v5 v6).bind fun o1 =>
 (Sum.elim (fun o1=>lH n k o1.1 o1.2 (IntKind.wrap .i64 (v6+1))) (fun o1=>some (.inr (o1.1,o1.2)))) o1)
 else(some (.inl v5))
abbrev Df(x0:Int):Nat×D:=(6,vi (IntKind.wrap .i64 (x0+1)))
theorem vd(n:Nat)(k:Nat):∀(v0:Bs)(v5:List (aG))(v6:Int)(o:Sum ((List (aG))) (Int×Int)),lH n k v0 v5 v6=some o->(Sum.elim (fun s=>To 65 F0 w0 [(5,.row 1005)] [(1005,50,[aK s])] (.exit 0) Q) (fun s=>To 65 F0 w0 [(2,.val (.slice none 0 0)),(3,vi s.1),(4,vi s.2)] [] .ret Q)) o->WL Tryz.prog 65 F0 w0 [(0,.str v0),(5,.row 1005),(6,vi v6)] [(1005,50,[aK v5])] (cI (cI (cB (cA (cB (cB (cB (cF Tryz.f23)))))))) Q:=by
 induction k with
 |zero=>intro v0 v5 v6 o h;cases h
 |succ k ih =>
  intro v0 v5 v6 o h hQ
  rw[lH] at h
  refine WL.round (Wp.seq (Wp.seq (rg [0,5,6,17] [1005] [(0,.str v0),(5,.row 1005),(6,vi v6),(17,vb (!(v0==[])))] [(1005,50,[aK v5])] (To.ah (cn h (fun h=>?_) (fun h=>?_))))))
  ·refine Wp.skip (To.ah (Wp.seq ?_))
   obtain⟨o1,ho1,h⟩:=ay h
   refine kw [0,5,6] [1005] [(0,.str v0),(5,.row 1005),(6,vi v6)] [(1005,50,[aK v5])] (vY n v0 v5 v6 o1 ho1 ?_)
   rcases o1 with o1|o1
   ·replace h:=fZ h
    refine To.ah (rg [0,5,6] [1005] [(0,.str o1.1),(5,.row 1005),(Df v6)] [(1005,50,[aK o1.2])] (kt [0,5,6] [1005] [(0,.str o1.1),(5,.row 1005),(Df v6)] [(1005,50,[aK o1.2])] (To.again ?_)))
    exact ih o1.1 o1.2 (IntKind.wrap .i64 (v6+1)) _ h hQ
   ·replace h:=gv h
    refine To.aL (To.aL (kt [2,3,4] [] [(2,.val (.slice none 0 0)),(3,vi o1.1),(4,vi o1.2)] [] ?_))
    cases h
    exact hQ
  ·refine Wp.exit (To.bU (To.bU (kt [5] [1005] [(5,.row 1005)] [(1005,50,[aK v5])] ?_)))
   cases h
   exact hQ
def nI(n:Nat)(a0:Bs):Option ((List (aG))×Int×Int) :=
 if(decide ((List.length a0:Int)>8192))=true then(some (([]:List (aG)),0,9))
 else((lH n n a0 ([]:List (aG)) 1).bind fun o1 =>
 (Sum.elim (fun o1=>some (o1,0,0)) (fun o1=>some (([]:List (aG)),o1.1,o1.2))) o1)
theorem y8(n:Nat)(a0:Bs)(r:(List (aG))×Int×Int)(h:nI n a0=some r):aV Tryz.prog 23 [.str a0] [] (.tup [.row 1,vi r.2.1,vi r.2.2]) [(1,50,[aK r.1])]:=by
 unfold nI at h
 refine bo Tryz.f23 rfl fun F0 w0=>?_
 refine Wp.seq (rg [0] [] [(0,.str a0)] [] (To.ah (Wp.seq (Wp.seq (rg [0,15] [] [(0,.str a0),(15,vb (decide ((List.length a0:Int)>8192)))] [] (To.ah (cn h (fun h=>?_) (fun h=>?_))))))))
 ·refine Wp.seq (rg [2,3,4] [] [(2,.val (.slice none 0 0)),(3,vi 0),(4,vi 9)] [] (To.ah (Wp.ret (To.aL (To.pre (St.zm (t:=2) (k:=1002) (e:=50) (K':=[(2,.row 1002),(3,vi 0),(4,vi 9)]) (je _) (by decide) (by kernel_rfl) (by kernel_rfl)) (kt [2,3,4] [1002] [(2,.row 1002),(3,vi 0),(4,vi 9)] [(1002,50,[aK []])] (To.pre (St.rename 1002 1 (by decide) (K':=[(2,.row 1),(3,vi 0),(4,vi 9)]) (L':=[(1,50,[aK []])]) (by kernel_rfl) (by kernel_rfl) (by kernel_rfl)) ?_)))))))
  cases h
  exact To.dL hΓ [1] (by kernel_rfl) (by kernel_rfl)
 ·refine Wp.skip (To.ah (Wp.seq (rg [0,5] [] [(0,.str a0),(5,.val (.slice none 0 0))] [] (To.ah (Wp.seq (Wp.seq (rg [0,5,6] [] [(0,.str a0),(5,.val (.slice none 0 0)),(6,vi 1)] [] (To.ah (Wp.block ?_)))))))))
  obtain⟨o1,ho1,h⟩:=ay h
  refine kw [0,5,6] [] [(0,.str a0),(5,.val (.slice none 0 0)),(6,vi 1)] [] (Wp.pre (St.zm (t:=5) (k:=1005) (e:=50) (K':=[(0,.str a0),(5,.row 1005),(6,vi 1)]) (je _) (by decide) (by kernel_rfl) (by kernel_rfl)) (kw [0,5,6] [1005] [(0,.str a0),(5,.row 1005),(6,vi 1)] [(1005,50,[aK []])] (Wp.fP (vd n n a0 ([]:List (aG)) 1 o1 ho1 ?_))))
  rcases o1 with o1|o1
  ·replace h:=fZ h
   refine To.dW (To.ah (Wp.seq (rg [2,3,4] [1005] [(2,.row 1005),(3,vi 0),(4,vi 0)] [(1005,50,[aK o1])] (To.ah (Wp.ret (nt [2,3,4] [1005] [(1005,1002)] [2,3,4] [1002] [(2,.row 1002),(3,vi 0),(4,vi 0)] [(1002,50,[aK o1])] (To.pre (St.rename 1002 1 (by decide) (K':=[(2,.row 1),(3,vi 0),(4,vi 0)]) (L':=[(1,50,[aK o1])]) (by kernel_rfl) (by kernel_rfl) (by kernel_rfl)) ?_)))))))
   cases h
   exact To.dL hΓ [1] (by kernel_rfl) (by kernel_rfl)
  ·replace h:=gv h
   refine To.aR (To.aL (kt [2,3,4] [] [(2,.val (.slice none 0 0)),(3,vi o1.1),(4,vi o1.2)] [] (To.pre (St.zm (t:=2) (k:=1002) (e:=50) (K':=[(2,.row 1002),(3,vi o1.1),(4,vi o1.2)]) (je _) (by decide) (by kernel_rfl) (by kernel_rfl)) (kt [2,3,4] [1002] [(2,.row 1002),(3,vi o1.1),(4,vi o1.2)] [(1002,50,[aK []])] (To.pre (St.rename 1002 1 (by decide) (K':=[(2,.row 1),(3,vi o1.1),(4,vi o1.2)]) (L':=[(1,50,[aK []])]) (by kernel_rfl) (by kernel_rfl) (by kernel_rfl)) ?_)))))
   cases h
   exact To.dL hΓ [1] (by kernel_rfl) (by kernel_rfl)
def iD(v1:Int)(v2:Int)(v11:Bool)(b6:af)(b1000000:au):au :=
 if v11=true then((au.mk b1000000.f_l b1000000.aC v1 v2))
 else b1000000
abbrev aM(k0:Nat)(x:au):List D:=[.row k0,vi x.aC,vi x.mF,vi x.f_e]
abbrev dM(x0:au):Nat×Nat×List D:=(504000,50,[aK x0.f_l])
abbrev fH(x0:au):Nat×Nat×List D:=(1000000,46,aM 504000 x0)
theorem od(v1:Int)(v2:Int)(v11:Bool)(b6:af)(b1000000:au)(o:au)(h:iD v1 v2 v11 b6 b1000000=o)(hQ:To 21 F0 w0 [(6,.own 6 0)] [(6,26,qc6 b6),(504000,50,[aK o.f_l]),(1000000,46,aM 504000 o)] .normal Q):Wp Tryz.prog 21 F0 w0 [(0,.own 1000000 0),(1,vi v1),(2,vi v2),(6,.own 6 0),(11,vb v11)] [(6,26,qc6 b6),(dM b1000000),(fH b1000000)] (cB (cA (cB (cF Tryz.f25)))) Q:=by
 unfold iD at h
 refine cn h (fun h=>?_) (fun h=>?_)
 ·refine rg [6] [6,504000,1000000] [(6,.own 6 0)] [(6,26,qc6 b6),(dM b1000000),(1000000,46,[.row 504000,vi b1000000.aC,vi v1,vi v2])] (kt [6] [6,504000,1000000] [(6,.own 6 0)] [(6,26,qc6 b6),(dM b1000000),(1000000,46,[.row 504000,vi b1000000.aC,vi v1,vi v2])] ?_)
  cases h
  exact hQ
 ·refine Wp.skip (kt [6] [6,504000,1000000] [(6,.own 6 0)] [(6,26,qc6 b6),(dM b1000000),(fH b1000000)] ?_)
  cases h
  exact hQ
def cZ(a1:Int)(a2:Int)(h0:au):af×au :=
 bM (iD a1 a2 (h0.f_e==0) (af.mk 0 [] [] []) h0) fun o1 =>
 ((af.mk 0 [] [] []),o1)
theorem dN(a1:Int)(a2:Int)(h0:au)(r:af×au)(h:cZ a1 a2 h0=r):aV Tryz.prog 25 [.own 1000000 0,vi a1,vi a2] [(1000000,46,aM 1010000 h0),(1010000,50,[aK h0.f_l])] (.agg (qc6 r.1)) [(200,50,[aK r.2.f_l]),(1000000,46,aM 200 r.2)]:=by
 unfold cZ at h
 refine bo Tryz.f25 rfl fun F0 w0=>?_
 refine nw [0,1,2] [1000000,1010000] [(1010000,504000)] [0,1,2] [504000,1000000] [(0,.own 1000000 0),(1,vi a1),(2,vi a2)] [(504000,50,[aK h0.f_l]),(1000000,46,aM 504000 h0)] (Wp.seq (rg [0,1,2,6] [6,504000,1000000] [(0,.own 1000000 0),(1,vi a1),(2,vi a2),(6,.own 6 0)] [(6,26,[vi 0,.str [],.val (.slice none 0 0),.val (.slice none 0 0)]),(504000,50,[aK h0.f_l]),(1000000,46,aM 504000 h0)] (To.ah (Wp.seq (Wp.seq (rg [0,1,2,6,11] [6,504000,1000000] [(0,.own 1000000 0),(1,vi a1),(2,vi a2),(6,.own 6 0),(11,vb (h0.f_e==0))] [(6,26,[vi 0,.str [],.val (.slice none 0 0),.val (.slice none 0 0)]),(504000,50,[aK h0.f_l]),(1000000,46,aM 504000 h0)] (To.ah ?_)))))))
 obtain⟨o1,ho1,h⟩:=aW h
 refine kw [0,1,2,6,11] [6,504000,1000000] [(0,.own 1000000 0),(1,vi a1),(2,vi a2),(6,.own 6 0),(11,vb (h0.f_e==0))] [(6,26,[vi 0,.str [],.val (.slice none 0 0),.val (.slice none 0 0)]),(504000,50,[aK h0.f_l]),(1000000,46,aM 504000 h0)] (Wp.weak (K':=[(0,.own 1000000 0),(1,vi a1),(2,vi a2),(6,.own 6 0),(11,vb (h0.f_e==0))]) (L':=[(6,26,[vi 0,.str [],ls [],tn4 []]),(504000,50,[aK h0.f_l]),(1000000,46,aM 504000 h0)]) (.cons (.refl _) (.cons (.refl _) (.cons (.refl _) (.cons (.refl _) (.cons (.refl _) .nil))))) (.cons (.cons (.refl _) (.cons (.refl _) (.cons (.zero _ _) (.cons (.fE _ _ _) .nil)))) (.cons (.cons (.refl _) .nil) (.cons (.cons (.refl _) (.cons (.refl _) (.cons (.refl _) (.cons (.refl _) .nil)))) .nil))) (od a1 a2 (h0.f_e==0) zx3 h0 o1 ho1 (To.ah (Wp.seq (rg [6] [6,504000,1000000] [(6,.own 6 0)] [(6,26,[vi 0,.str [],.val (.slice none 0 0),.val (.slice none 0 0)]),(504000,50,[aK o1.f_l]),(1000000,46,aM 504000 o1)] (To.ah (Wp.ret (To.weak (K':=[(6,.own 6 0)]) (L':=[(6,26,[vi 0,.str [],ls [],tn4 []]),(504000,50,[aK o1.f_l]),(1000000,46,aM 504000 o1)]) (.cons (.refl _) .nil) (.cons (.cons (.refl _) (.cons (.refl _) (.cons (.zero _ _) (.cons (.fE _ _ _) .nil)))) (.cons (.cons (.refl _) .nil) (.cons (.cons (.refl _) (.cons (.refl _) (.cons (.refl _) (.cons (.refl _) .nil)))) .nil))) (To.pre (St.rename 504000 200 (by decide) (K':=[(6,.own 6 0)]) (L':=[(6,26,[vi 0,.str [],ls [],tn4 []]),(200,50,[aK o1.f_l]),(1000000,46,aM 200 o1)]) (by kernel_rfl) (by kernel_rfl) (by kernel_rfl)) ?_)))))))))
 cases h
 exact To.dL hΓ [200,1000000] (by kernel_rfl) (by kernel_rfl)
def ja(n:Nat)(a1:Int)(h0:au):Option (aG×Bool×au) :=
 if(bif (h0.f_e != 0) then true else(h0.aC==(List.length h0.f_l:Int)))=true then(some ((aG.mk 0 0 []),false,h0))
 else(if(decide (0<=h0.aC/\h0.aC<(List.length h0.f_l:Int)))=true then(some (((h0.f_l)[Int.toNat h0.aC]?.getD (aG.mk 0 0 [])),(decide ((((h0.f_l)[Int.toNat h0.aC]?.getD (aG.mk 0 0 [])).bE)>a1)),h0)) else none)
theorem pN(n:Nat)(a1:Int)(h0:au)(r:aG×Bool×au)(h:ja n a1 h0=some r):aV Tryz.prog 109 [.own 1000000 0,vi a1] [(1000000,46,aM 1010000 h0),(1010000,50,[aK h0.f_l])] (.tup [.agg (lq r.1),vb r.2.1]) [(200,50,[aK r.2.2.f_l]),(1000000,46,aM 200 r.2.2)]:=by
 unfold ja at h
 refine bo Tryz.f109 rfl fun F0 w0=>?_
 refine nw [0,1] [1000000,1010000] [(1010000,504000)] [0,1] [504000,1000000] [(0,.own 1000000 0),(1,vi a1)] [(504000,50,[aK h0.f_l]),(1000000,46,aM 504000 h0)] (Wp.seq (rg [0,1,4] [4,504000,1000000] [(0,.own 1000000 0),(1,vi a1),(4,.own 4 0)] [(4,50,[vi 0,vi 0,.str []]),(504000,50,[aK h0.f_l]),(1000000,46,aM 504000 h0)] (To.ah (Wp.seq (Wp.seq (Wp.dP hm hΓ [] [0,1,4,22] [4,504000,1000000] (K':=[(0,.own 1000000 0),(1,vi a1),(4,.own 4 0),(22,vb (bif (h0.f_e != 0) then true else(h0.aC==(List.length h0.f_l:Int))))]) (L':=[(4,50,[vi 0,vi 0,.str []]),(504000,50,[aK h0.f_l]),(1000000,46,aM 504000 h0)]) (ob:=[]) (by kernel_rfl) aj.nil (To.ah (cn h (fun h=>?_) (fun h=>?_)))))))))
 ·refine Wp.seq (rg [4,5] [4,504000,1000000] [(4,.own 4 0),(5,vb false)] [(4,50,[vi 0,vi 0,.str []]),(504000,50,[aK h0.f_l]),(1000000,46,aM 504000 h0)] (To.ah (Wp.ret (To.aL (nt [4,5] [4,504000,1000000] [(504000,200)] [4,5] [4,200,1000000] [(4,.own 4 0),(5,vb false)] [(4,50,[vi 0,vi 0,.str []]),(200,50,[aK h0.f_l]),(1000000,46,aM 200 h0)] ?_)))))
  cases h
  exact To.dL hΓ [200,1000000] (by kernel_rfl) (by kernel_rfl)
 ·refine Wp.skip (To.ah (Wp.seq ?_))
  obtain⟨hc1,h⟩:=aF h
  refine Wp.dP hm hΓ [] [4,5] [4,504000,1000000] (K':=[(4,.own 4 0),(5,vb (decide ((((h0.f_l)[Int.toNat h0.aC]?.getD eU).bE)>a1)))]) (L':=[(4,50,[vi (((h0.f_l)[Int.toNat h0.aC]?.getD eU).fD),vi (((h0.f_l)[Int.toNat h0.aC]?.getD eU).bE),.str (((h0.f_l)[Int.toNat h0.aC]?.getD eU).aI)]),(504000,50,[aK h0.f_l]),(1000000,46,aM 504000 h0)]) (ob:=[(decide (0<=h0.aC/\h0.aC<(List.length h0.f_l:Int)))=true,(decide (0<=h0.aC/\h0.aC<(List.length h0.f_l:Int)))=true,(decide (0<=h0.aC/\h0.aC<(List.length h0.f_l:Int)))=true,(decide (0<=h0.aC/\h0.aC<(List.length h0.f_l:Int)))=true]) (by kernel_rfl) (aj.cons hc1 (aj.cons hc1 (aj.cons hc1 (aj.cons hc1 aj.nil)))) (To.ah (Wp.ret (nt [4,5] [4,504000,1000000] [(504000,200)] [4,5] [4,200,1000000] [(4,.own 4 0),(5,vb (decide ((((h0.f_l)[Int.toNat h0.aC]?.getD eU).bE)>a1)))] [(4,50,[vi (((h0.f_l)[Int.toNat h0.aC]?.getD eU).fD),vi (((h0.f_l)[Int.toNat h0.aC]?.getD eU).bE),.str (((h0.f_l)[Int.toNat h0.aC]?.getD eU).aI)]),(200,50,[aK h0.f_l]),(1000000,46,aM 200 h0)] ?_)))
  cases h
  exact To.dL hΓ [200,1000000] (by kernel_rfl) (by kernel_rfl)
def fQ(R_block_reader_block__o0_s2:au->Option (af×au))(n:Nat)(a1:Int)(a2:Bool)(h0:au):Option (af×au) :=
 (ja n a1 h0).bind fun r1 =>
 bM ((bif (!r1.2.1) then(bif (bif (bif (bif (!a2) then true else(r1.2.2.f_e != 0)) then true else(r1.2.2.aC==(List.length r1.2.2.f_l:Int))) then true else(r1.1.bE != a1)) then true else(!(fe r1.1.aI))) else false):Bool) fun x2 =>
 if x2=true then(some ((af.mk 0 [] [] []),r1.2.2))
 else((R_block_reader_block__o0_s2 r1.2.2).bind fun r3 =>
 some (r3.1,r3.2))
abbrev u6(R_block_reader_block__o0_s2:au->Option (af×au)):Prop:=∀(h0:au)(r:af×au),R_block_reader_block__o0_s2 h0=some r->aV Tryz.prog 24 [.own 1000000 0] [(1000000,46,[.row 1010000,vi h0.aC,vi h0.mF,vi h0.f_e]),(1010000,50,[aK h0.f_l])] (.agg [vi r.1.aD,.str r.1.aI,ls r.1.av,tn4 r.1.ai]) [(200,50,[aK r.2.f_l]),(1000000,46,[.row 200,vi r.2.aC,vi r.2.mF,vi r.2.f_e])]
theorem j6(R_block_reader_block__o0_s2:au->Option (af×au))(hR_block_reader_block__o0_s2:u6 R_block_reader_block__o0_s2)(n:Nat)(a1:Int)(a2:Bool)(h0:au)(r:af×au)(h:fQ R_block_reader_block__o0_s2 n a1 a2 h0=some r):aV Tryz.prog 86 [.own 1000000 0,vi a1,vb a2] [(1000000,46,aM 1010000 h0),(1010000,50,[aK h0.f_l])] (.agg (qc6 r.1)) [(200,50,[aK r.2.f_l]),(1000000,46,aM 200 r.2)]:=by
 unfold fQ at h
 refine bo Tryz.f86 rfl fun F0 w0=>?_
 refine nw [0,1,2] [1000000,1010000] [(1010000,504000)] [0,1,2] [504000,1000000] [(0,.own 1000000 0),(1,vi a1),(2,vb a2)] [(504000,50,[aK h0.f_l]),(1000000,46,aM 504000 h0)] (Wp.seq (rg [0,1,2,6] [6,504000,1000000] [(0,.own 1000000 0),(1,vi a1),(2,vb a2),(6,.own 6 0)] [(6,26,[vi 0,.str [],.val (.slice none 0 0),.val (.slice none 0 0)]),(504000,50,[aK h0.f_l]),(1000000,46,aM 504000 h0)] (To.ah (Wp.seq ?_))))
 obtain⟨r1,hr1,h⟩:=ay h
 refine rb [] 2 ⟨[(1000000,1000000),(1010000,504000)],[(200,504000),(1000000,1000000)],[.own 1000000 0,vi a1],[(1000000,46,aM 1010000 h0),(1010000,50,[aK h0.f_l])],.tup [.agg (lq r1.1),vb r1.2.1],[(200,50,[aK r1.2.2.f_l]),(1000000,46,aM 200 r1.2.2)]⟩ [0,1,2,6,7,8] [6,7,504000,1000000] [(0,.own 1000000 0),(1,vi a1),(2,vb a2),(6,.own 6 0),(7,.own 7 0),(8,vb r1.2.1)] [(6,26,[vi 0,.str [],.val (.slice none 0 0),.val (.slice none 0 0)]),(7,50,lq r1.1),(504000,50,[aK r1.2.2.f_l]),(1000000,46,aM 504000 r1.2.2)] ((pN n a1 h0 _ hr1)) (To.ah (Wp.seq (Wp.seq ?_)))
 obtain⟨x2,hx2,h⟩:=aW h
 refine Wp.dP hm hΓ [(33,vb (fe r1.1.aI))] [0,6,51] [6,504000,1000000] (K':=[(0,.own 1000000 0),(6,.own 6 0),(51,vb (bif (!r1.2.1) then(bif (bif (bif (bif (!a2) then true else(r1.2.2.f_e != 0)) then true else(r1.2.2.aC==(List.length r1.2.2.f_l:Int))) then true else(r1.1.bE != a1)) then true else(!(fe r1.1.aI))) else false))]) (L':=[(6,26,[vi 0,.str [],.val (.slice none 0 0),.val (.slice none 0 0)]),(504000,50,[aK r1.2.2.f_l]),(1000000,46,aM 504000 r1.2.2)]) (ob:=[((((bif (bif (bif (!a2) then true else(r1.2.2.f_e != 0)) then true else(r1.2.2.aC==(List.length r1.2.2.f_l:Int))) then true else(r1.1.bE != a1))==false)&&((!r1.2.1)==true))=true->CX Tryz.prog 14 [.str r1.1.aI] (vb (fe r1.1.aI)))]) (by kernel_rfl) (aj.cons (fun _=>cx (ot r1.1.aI _ rfl)) aj.nil) (To.eq (K':=[(0,.own 1000000 0),(6,.own 6 0),(51,vb x2)]) (L':=[(6,26,[vi 0,.str [],.val (.slice none 0 0),.val (.slice none 0 0)]),(504000,50,[aK r1.2.2.f_l]),(1000000,46,aM 504000 r1.2.2)]) (by cases hx2;rfl) (by cases hx2;rfl) (To.ah (cn h (fun h=>?_) (fun h=>?_))))
 ·refine Wp.seq (rg [6] [6,504000,1000000] [(6,.own 6 0)] [(6,26,[vi 0,.str [],.val (.slice none 0 0),.val (.slice none 0 0)]),(504000,50,[aK r1.2.2.f_l]),(1000000,46,aM 504000 r1.2.2)] (To.ah (Wp.ret (To.aL (To.weak (K':=[(6,.own 6 0)]) (L':=[(6,26,[vi 0,.str [],ls [],tn4 []]),(504000,50,[aK r1.2.2.f_l]),(1000000,46,aM 504000 r1.2.2)]) (.cons (.refl _) .nil) (.cons (.cons (.refl _) (.cons (.refl _) (.cons (.zero _ _) (.cons (.fE _ _ _) .nil)))) (.cons (.cons (.refl _) .nil) (.cons (.cons (.refl _) (.cons (.refl _) (.cons (.refl _) (.cons (.refl _) .nil)))) .nil))) (To.pre (St.rename 504000 200 (by decide) (K':=[(6,.own 6 0)]) (L':=[(6,26,[vi 0,.str [],ls [],tn4 []]),(200,50,[aK r1.2.2.f_l]),(1000000,46,aM 200 r1.2.2)]) (by kernel_rfl) (by kernel_rfl) (by kernel_rfl)) ?_))))))
  cases h
  exact To.dL hΓ [200,1000000] (by kernel_rfl) (by kernel_rfl)
 ·refine Wp.skip (To.ah (Wp.seq ?_))
  obtain⟨r3,hr3,h⟩:=ay h
  refine rb [] 1 ⟨[(1000000,1000000),(1010000,504000)],[(200,504000),(1000000,1000000)],[.own 1000000 0],[(1000000,46,aM 1010000 r1.2.2),(1010000,50,[aK r1.2.2.f_l])],.agg (qc6 r3.1),[(200,50,[aK r3.2.f_l]),(1000000,46,aM 200 r3.2)]⟩ [6] [6,504000,1000000] [(6,.own 6 0)] [(6,26,qc6 r3.1),(504000,50,[aK r3.2.f_l]),(1000000,46,aM 504000 r3.2)] ((hR_block_reader_block__o0_s2 r1.2.2 _ hr3)) (To.ah (Wp.ret (nt [6] [6,504000,1000000] [(504000,200)] [6] [6,200,1000000] [(6,.own 6 0)] [(6,26,qc6 r3.1),(200,50,[aK r3.2.f_l]),(1000000,46,aM 200 r3.2)] ?_)))
  cases h
  exact To.dL hΓ [200,1000000] (by kernel_rfl) (by kernel_rfl)
def dU(R_block_reader_block__o0_s2:au->Option (af×au))(n:Nat)(v1:Int):Nat->af->af->au->Option (Sum (af×af×au) (af×au))
 |0,_,_,_=>none
 |k+1,b4,b5,b1000000=>if(bif (b1000000.f_e==0) then(decide (b1000000.aC<(List.length b1000000.f_l:Int))) else false)=true then(if(decide (0<=b1000000.aC/\b1000000.aC<(List.length b1000000.f_l:Int)))=true then(if(decide ((((b1000000.f_l)[Int.toNat b1000000.aC]?.getD (aG.mk 0 0 [])).bE)>v1))=true then(bM (cZ (((b1000000.f_l)[Int.toNat b1000000.aC]?.getD (aG.mk 0 0 [])).fD) 3 b1000000) fun r1 =>
 some (.inr (r1.1,r1.2)))
 else(bM (fe (((b1000000.f_l)[Int.toNat b1000000.aC]?.getD (aG.mk 0 0 [])).aI)) fun r2 =>
 bM ((bif (decide ((((b1000000.f_l)[Int.toNat b1000000.aC]?.getD (aG.mk 0 0 [])).bE)<v1)) then true else(!r2)):Bool) fun x3 =>
 if x3=true then(some (.inl (b4,b5,b1000000)))
 else(if((((b1000000.f_l)[Int.toNat b1000000.aC]?.getD (aG.mk 0 0 [])).aI)==[45])=true then((fQ R_block_reader_block__o0_s2 n v1 false (au.mk b1000000.f_l (IntKind.wrap .i64 (b1000000.aC+1)) b1000000.mF b1000000.f_e)).bind fun r4 =>
 if(decide ((List.length b5.ai+List.length ([r4.1]:List (af)))*(72+1)<=limit))=true then(dU R_block_reader_block__o0_s2 n v1 k b4 (af.mk b5.aD b5.aI b5.av (b5.ai++([r4.1]:List (af)))) r4.2) else none)
 else((xC n ((b1000000.f_l)[Int.toNat b1000000.aC]?.getD (aG.mk 0 0 [])) 1).bind fun r6 =>
 if(decide (0<=b1000000.aC/\b1000000.aC<(List.length b1000000.f_l:Int)))=true then((R_block_reader_block__o0_s2 (au.mk (List.set b1000000.f_l (Int.toNat b1000000.aC) r6) b1000000.aC b1000000.mF b1000000.f_e)).bind fun r7 =>
 if(decide ((List.length b5.ai+List.length ([r7.1]:List (af)))*(72+1)<=limit))=true then(dU R_block_reader_block__o0_s2 n v1 k b4 (af.mk b5.aD b5.aI b5.av (b5.ai++([r7.1]:List (af)))) r7.2) else none) else none)))) else none)
 else(some (.inl (b4,b5,b1000000)))
abbrev aP(l:List (af)):D:=.aO false (α:=af) zx3 df l
abbrev cv(l:List (af)):D:=.recs (α:=af) zx3 df l
abbrev eX(k0:Nat)(x:af):List D:=[vi x.aD,.str x.aI,ls x.av,.row k0]
abbrev mB(x0:au):Nat×Nat×List D:=(6,50,[vi (((x0.f_l)[Int.toNat x0.aC]?.getD eU).fD),vi (((x0.f_l)[Int.toNat x0.aC]?.getD eU).bE),.str (((x0.f_l)[Int.toNat x0.aC]?.getD eU).aI)])
abbrev xw(x0:au):Nat×Nat×List D:=(1000000,46,[.row 504000,vi (IntKind.wrap .i64 (x0.aC+1)),vi x0.mF,vi x0.f_e])
abbrev vM(x0:au):=(decide (0<=x0.aC/\x0.aC<(List.length x0.f_l:Int)))
abbrev qS(x0:au):Nat×Nat×List D:=(1000000,46,aM 1010000 x0)
abbrev rZ(x0:au):Nat×Nat×List D:=(1010000,50,[aK x0.f_l])
abbrev Iq(x0:au):Nat×Nat×List D:=(1000000,46,[.row 1010000,vi (IntKind.wrap .i64 (x0.aC+1)),vi x0.mF,vi x0.f_e])
abbrev KU(x0:au):=(bif (x0.f_e==0) then(decide (x0.aC<(List.length x0.f_l:Int))) else false)
abbrev Iz(x0:au)(x1:Int):=(decide ((((x0.f_l)[Int.toNat x0.aC]?.getD eU).bE)>x1))
abbrev I4(x0:au):=(au.mk x0.f_l (IntKind.wrap .i64 (x0.aC+1)) x0.mF x0.f_e)
abbrev kZ(x0:au):=((x0.f_l)[Int.toNat x0.aC]?.getD eU)
theorem ou(R_block_reader_block__o0_s2:au->Option (af×au))(hR_block_reader_block__o0_s2:u6 R_block_reader_block__o0_s2)(n:Nat)(v1:Int)(k:Nat):∀(b4:af)(b5:af)(b1000000:au)(o:Sum (af×af×au) (af×au)),dU R_block_reader_block__o0_s2 n v1 k b4 b5 b1000000=some o->(Sum.elim (fun s=>To 93 F0 w0 [(4,.own 4 0),(5,.own 5 0)] [(4,26,qc6 s.1),(5,26,eX 4303 s.2.1),(4303,26,[aP s.2.1.ai]),(504000,50,[aK s.2.2.f_l]),(1000000,46,aM 504000 s.2.2)] (.exit 0) Q) (fun s=>To 93 F0 w0 [(4,.own 4 0)] [(4,26,qc6 s.1),(504000,50,[aK s.2.f_l]),(1000000,46,aM 504000 s.2)] .ret Q)) o->WL Tryz.prog 93 F0 w0 [(0,.own 1000000 0),(1,vi v1),(4,.own 4 0),(5,.own 5 0)] [(4,26,qc6 b4),(5,26,eX 4303 b5),(4303,26,[aP b5.ai]),(dM b1000000),(fH b1000000)] (cI (cI (cA (cB (cB (cI (cB (cF Tryz.f55)))))))) Q:=by
 induction k with
 |zero=>intro b4 b5 b1000000 o h;cases h
 |succ k ih =>
  intro b4 b5 b1000000 o h hQ
  rw[dU] at h
  refine WL.round (Wp.seq (Wp.seq (Wp.dP hm hΓ [] [0,1,4,5,24] [4,5,4303,504000,1000000] (K':=[(0,.own 1000000 0),(1,vi v1),(4,.own 4 0),(5,.own 5 0),(24,vb (KU b1000000))]) (L':=[(4,26,qc6 b4),(5,26,eX 4303 b5),(4303,26,[aP b5.ai]),(dM b1000000),(fH b1000000)]) (ob:=[]) (by kernel_rfl) aj.nil (To.ah (cn h (fun h=>?_) (fun h=>?_))))))
  ·refine Wp.skip (To.ah (Wp.block (Wp.seq ?_)))
   obtain⟨hc10,h⟩:=aF h
   refine Wp.dP hm hΓ [] [0,1,4,5,6] [4,5,6,4303,504000,1000000] (K':=[(0,.own 1000000 0),(1,vi v1),(4,.own 4 0),(5,.own 5 0),(6,.own 6 0)]) (L':=[(4,26,qc6 b4),(5,26,eX 4303 b5),(mB b1000000),(4303,26,[aP b5.ai]),(dM b1000000),(fH b1000000)]) (ob:=[(vM b1000000)=true,(vM b1000000)=true]) (by kernel_rfl) (aj.cons hc10 (aj.cons hc10 aj.nil)) (To.ah (Wp.block (Wp.seq (rg [0,1,4,5,6,53] [4,5,6,4303,504000,1000000] [(0,.own 1000000 0),(1,vi v1),(4,.own 4 0),(5,.own 5 0),(6,.own 6 0),(53,vb (Iz b1000000 v1))] [(4,26,qc6 b4),(5,26,eX 4303 b5),(mB b1000000),(4303,26,[aP b5.ai]),(dM b1000000),(fH b1000000)] (To.ah (cn h (fun h=>?_) (fun h=>?_)))))))
   ·refine Wp.seq ?_
    obtain⟨r1,hr1,h⟩:=aW h
    refine rb [] 3 ⟨[(1000000,1000000),(1010000,504000)],[(200,504000),(1000000,1000000)],[.own 1000000 0,vi ((kZ b1000000).fD),vi 3],[(qS b1000000),(rZ b1000000)],.agg (qc6 r1.1),[(200,50,[aK r1.2.f_l]),(1000000,46,aM 200 r1.2)]⟩ [4] [4,504000,1000000] [(4,.own 4 0)] [(4,26,qc6 r1.1),(504000,50,[aK r1.2.f_l]),(1000000,46,aM 504000 r1.2)] ((dN ((kZ b1000000).fD) 3 b1000000 _ hr1)) (To.ah (Wp.ret (To.aR (To.aR (To.aL ?_)))))
    cases h
    exact hQ
   ·refine Wp.seq ?_
    obtain⟨r2,hr2,h⟩:=aW h
    obtain⟨x3,hx3,h⟩:=aW h
    refine rr [] [(7,vb r2)] [] [0,1,4,5,6,62] [4,5,6,4303,504000,1000000] [(0,.own 1000000 0),(1,vi v1),(4,.own 4 0),(5,.own 5 0),(6,.own 6 0),(62,vb (bif (decide (((kZ b1000000).bE)<v1)) then true else(!r2)))] [(4,26,qc6 b4),(5,26,eX 4303 b5),(mB b1000000),(4303,26,[aP b5.ai]),(dM b1000000),(fH b1000000)] [(((decide (((kZ b1000000).bE)<v1))==false)=true->CX Tryz.prog 14 [.str ((kZ b1000000).aI)] (vb r2))] (aj.cons (fun _=>cx (ot ((kZ b1000000).aI) _ hr2)) aj.nil) (To.eq (K':=[(0,.own 1000000 0),(1,vi v1),(4,.own 4 0),(5,.own 5 0),(6,.own 6 0),(62,vb x3)]) (L':=[(4,26,qc6 b4),(5,26,eX 4303 b5),(mB b1000000),(4303,26,[aP b5.ai]),(dM b1000000),(fH b1000000)]) (by cases hx3;rfl) (by cases hx3;rfl) (To.ah (cn h (fun h=>?_) (fun h=>?_))))
    ·refine Wp.exit (To.vO (by decide) (To.vO (by decide) (To.bU (kt [4,5] [4,5,4303,504000,1000000] [(4,.own 4 0),(5,.own 5 0)] [(4,26,qc6 b4),(5,26,eX 4303 b5),(4303,26,[aP b5.ai]),(dM b1000000),(fH b1000000)] ?_))))
     cases h
     exact hQ
    ·refine Wp.seq (rg [0,1,4,5,6,73] [4,5,6,4303,504000,1000000] [(0,.own 1000000 0),(1,vi v1),(4,.own 4 0),(5,.own 5 0),(6,.own 6 0),(73,vb (((kZ b1000000).aI)==[45]))] [(4,26,qc6 b4),(5,26,eX 4303 b5),(mB b1000000),(4303,26,[aP b5.ai]),(dM b1000000),(fH b1000000)] (To.ah (cn h (fun h=>?_) (fun h=>?_))))
     ·refine Wp.seq (rg [0,1,4,5] [4,5,4303,504000,1000000] [(0,.own 1000000 0),(1,vi v1),(4,.own 4 0),(5,.own 5 0)] [(4,26,qc6 b4),(5,26,eX 4303 b5),(4303,26,[aP b5.ai]),(dM b1000000),(xw b1000000)] (To.ah ?_))
      obtain⟨r4,hr4,h⟩:=ay h
      obtain⟨hc5,h⟩:=aF h
      refine Wp.qL hm hΓ [] [(5,cv [r4.1]),(6,cv (b5.ai++([r4.1]:List (af))))] [(4,⟨[(1000000,1000000),(1010000,504000)],[(200,504000),(1000000,1000000)],[.own 1000000 0,vi v1,vb false],[(Iq b1000000),(rZ b1000000)],.agg (qc6 r4.1),[(200,50,[aK r4.2.f_l]),(1000000,46,aM 200 r4.2)]⟩)] [0,1,4,5,84,85,86,87,88,89,90,91] [4,5,89,90,4303,504000,1000000] [0,1,4,5] [4,5,90,504000,1000000] (K':=[(0,.own 1000000 0),(1,vi v1),(4,.own 4 0),(5,.own 5 0)]) (L':=[(4,26,qc6 b4),(5,26,eX 90 b5),(90,26,[aP (b5.ai++([r4.1]:List (af)))]),(504000,50,[aK r4.2.f_l]),(1000000,46,aM 504000 r4.2)]) (ob:=[qp (aV Tryz.prog) 86 [.own 1000000 0,vi v1,vb false] [some (46,[.row 504000,vi (IntKind.wrap .i64 (b1000000.aC+1)),vi b1000000.mF,vi b1000000.f_e]),some (50,[aK b1000000.f_l])] ⟨[(1000000,1000000),(1010000,504000)],[(200,504000),(1000000,1000000)],[.own 1000000 0,vi v1,vb false],[(Iq b1000000),(rZ b1000000)],.agg (qc6 r4.1),[(200,50,[aK r4.2.f_l]),(1000000,46,aM 200 r4.2)]⟩,(dC 4 (qc6 r4.1) 1 (cv [r4.1])/\aQ (cv [r4.1])),(decide ((List.length b5.ai+List.length ([r4.1]:List (af)))*(72+1)<=limit))=true,(eQ zx3 df b5.ai (List.flatMap df ([r4.1]:List (af))) (List.length ([r4.1]:List (af))) (cv (b5.ai++([r4.1]:List (af))))/\aQ (cv (b5.ai++([r4.1]:List (af)))))]) (by kernel_rfl) (by kernel_rfl) (aj.cons (⟨(j6 R_block_reader_block__o0_s2 hR_block_reader_block__o0_s2 n v1 false (I4 b1000000) _ hr4),by kernel_rfl,by kernel_rfl⟩) (aj.cons (fL (by kernel_rfl) rfl (by kernel_rfl) (bC _)) (aj.cons hc5 (aj.cons (eG rfl rfl (bC _)) aj.nil)))) ?_
      refine To.aS (To.aS (nt [0,1,4,5] [4,5,90,504000,1000000] [(90,4303)] [0,1,4,5] [4,5,4303,504000,1000000] [(0,.own 1000000 0),(1,vi v1),(4,.own 4 0),(5,.own 5 0)] [(4,26,qc6 b4),(5,26,eX 4303 b5),(4303,26,[aP (b5.ai++([r4.1]:List (af)))]),(504000,50,[aK r4.2.f_l]),(1000000,46,aM 504000 r4.2)] (To.again ?_)))
      exact ih b4 (af.mk b5.aD b5.aI b5.av (b5.ai++([r4.1]:List (af)))) r4.2 _ h hQ
     ·refine Wp.seq ?_
      obtain⟨r6,hr6,h⟩:=ay h
      obtain⟨hc9,h⟩:=aF h
      refine Wp.J8 hm hΓ 10 [] [(9,.agg (lq r6)),(11,vP (List.set b1000000.f_l (Int.toNat b1000000.aC) r6))] [] [0,1,4,5] [4,5,4303,504000,1000000] (K':=[(0,.own 1000000 0),(1,vi v1),(4,.own 4 0),(5,.own 5 0)]) (L':=[(4,26,qc6 b4),(5,26,eX 4303 b5),(4303,26,[aP b5.ai]),(504000,50,[aK (List.set b1000000.f_l (Int.toNat b1000000.aC) r6)]),(fH b1000000)]) (ob:=[(true=true->CX Tryz.prog 87 [.agg [vi ((kZ b1000000).fD),vi ((kZ b1000000).bE),.str ((kZ b1000000).aI)],vi 1] (.agg (lq r6))),(vM b1000000)=true,(vM b1000000)=true,BL eU kP b1000000.f_l b1000000.aC 0 (lq r6) (vP (List.set b1000000.f_l (Int.toNat b1000000.aC) r6))]) (by kernel_rfl) (aj.cons (fun _=>cx (D3 n (kZ b1000000) 1 _ hr6)) (aj.cons hc9 (aj.cons hc9 (aj.cons (Me (by kernel_rfl)) aj.nil)))) (To.ah ?_)
      obtain⟨r7,hr7,h⟩:=ay h
      obtain⟨hc8,h⟩:=aF h
      refine Wp.qL hm hΓ [] [(4,cv [r7.1]),(5,cv (b5.ai++([r7.1]:List (af))))] [(3,⟨[(1000000,1000000),(1010000,504000)],[(200,504000),(1000000,1000000)],[.own 1000000 0],[(qS b1000000),(1010000,50,[aK (List.set b1000000.f_l (Int.toNat b1000000.aC) r6)])],.agg (qc6 r7.1),[(200,50,[aK r7.2.f_l]),(1000000,46,aM 200 r7.2)]⟩)] [0,1,4,5,46,47,48,49,50,51,52] [4,5,50,51,4303,504000,1000000] [0,1,4,5] [4,5,51,504000,1000000] (K':=[(0,.own 1000000 0),(1,vi v1),(4,.own 4 0),(5,.own 5 0)]) (L':=[(4,26,qc6 b4),(5,26,eX 51 b5),(51,26,[aP (b5.ai++([r7.1]:List (af)))]),(504000,50,[aK r7.2.f_l]),(1000000,46,aM 504000 r7.2)]) (ob:=[qp (aV Tryz.prog) 24 [.own 1000000 0] [some (46,aM 504000 b1000000),some (50,[aK (List.set b1000000.f_l (Int.toNat b1000000.aC) r6)])] ⟨[(1000000,1000000),(1010000,504000)],[(200,504000),(1000000,1000000)],[.own 1000000 0],[(qS b1000000),(1010000,50,[aK (List.set b1000000.f_l (Int.toNat b1000000.aC) r6)])],.agg (qc6 r7.1),[(200,50,[aK r7.2.f_l]),(1000000,46,aM 200 r7.2)]⟩,(dC 4 (qc6 r7.1) 1 (cv [r7.1])/\aQ (cv [r7.1])),(decide ((List.length b5.ai+List.length ([r7.1]:List (af)))*(72+1)<=limit))=true,(eQ zx3 df b5.ai (List.flatMap df ([r7.1]:List (af))) (List.length ([r7.1]:List (af))) (cv (b5.ai++([r7.1]:List (af))))/\aQ (cv (b5.ai++([r7.1]:List (af)))))]) (by kernel_rfl) (by kernel_rfl) (aj.cons (⟨(hR_block_reader_block__o0_s2 (au.mk (List.set b1000000.f_l (Int.toNat b1000000.aC) r6) b1000000.aC b1000000.mF b1000000.f_e) _ hr7),by kernel_rfl,by kernel_rfl⟩) (aj.cons (fL (by kernel_rfl) rfl (by kernel_rfl) (bC _)) (aj.cons hc8 (aj.cons (eG rfl rfl (bC _)) aj.nil)))) ?_
      refine To.aS (To.aS (nt [0,1,4,5] [4,5,51,504000,1000000] [(51,4303)] [0,1,4,5] [4,5,4303,504000,1000000] [(0,.own 1000000 0),(1,vi v1),(4,.own 4 0),(5,.own 5 0)] [(4,26,qc6 b4),(5,26,eX 4303 b5),(4303,26,[aP (b5.ai++([r7.1]:List (af)))]),(504000,50,[aK r7.2.f_l]),(1000000,46,aM 504000 r7.2)] (To.again ?_)))
      exact ih b4 (af.mk b5.aD b5.aI b5.av (b5.ai++([r7.1]:List (af)))) r7.2 _ h hQ
  ·refine Wp.exit (To.bU (To.bU (kt [4,5] [4,5,4303,504000,1000000] [(4,.own 4 0),(5,.own 5 0)] [(4,26,qc6 b4),(5,26,eX 4303 b5),(4303,26,[aP b5.ai]),(dM b1000000),(fH b1000000)] ?_)))
   cases h
   exact hQ
def jr(R_block_reader_block__o0_s2:au->Option (af×au))(n:Nat)(a1:Int)(h0:au):Option (af×au) :=
 (dU R_block_reader_block__o0_s2 n a1 n (af.mk 0 [] [] []) (af.mk 2 [] [] []) h0).bind fun o1 =>
 (Sum.elim (fun o1=>some (o1.2.1,o1.2.2)) (fun o1=>some (o1.1,o1.2))) o1
abbrev qf(l:List (af)):D:=.aO true (α:=af) zx3 df l
abbrev FT(x:af):List D:=[vi x.aD,.str x.aI,ls x.av,cv x.ai]
theorem ql(R_block_reader_block__o0_s2:au->Option (af×au))(hR_block_reader_block__o0_s2:u6 R_block_reader_block__o0_s2)(n:Nat)(a1:Int)(h0:au)(r:af×au)(h:jr R_block_reader_block__o0_s2 n a1 h0=some r):aV Tryz.prog 55 [.own 1000000 0,vi a1] [(1000000,46,aM 1010000 h0),(1010000,50,[aK h0.f_l])] (.agg (qc6 r.1)) [(200,50,[aK r.2.f_l]),(1000000,46,aM 200 r.2)]:=by
 unfold jr at h
 refine bo Tryz.f55 rfl fun F0 w0=>?_
 refine nw [0,1] [1000000,1010000] [(1010000,504000)] [0,1] [504000,1000000] [(0,.own 1000000 0),(1,vi a1)] [(504000,50,[aK h0.f_l]),(1000000,46,aM 504000 h0)] (Wp.seq (rg [0,1,4] [4,504000,1000000] [(0,.own 1000000 0),(1,vi a1),(4,.own 4 0)] [(4,26,[vi 0,.str [],.val (.slice none 0 0),.val (.slice none 0 0)]),(504000,50,[aK h0.f_l]),(1000000,46,aM 504000 h0)] (To.ah (Wp.scope (Wp.seq (rg [0,1,4,5] [4,5,504000,1000000] [(0,.own 1000000 0),(1,vi a1),(4,.own 4 0),(5,.own 5 0)] [(4,26,[vi 0,.str [],.val (.slice none 0 0),.val (.slice none 0 0)]),(5,26,[vi 2,.str [],.val (.slice none 0 0),.val (.slice none 0 0)]),(504000,50,[aK h0.f_l]),(1000000,46,aM 504000 h0)] (To.ah (Wp.seq (Wp.label (To.ah (Wp.seq (Wp.block ?_))))))))))))
 obtain⟨o1,ho1,h⟩:=ay h
 refine kw [0,1,4,5] [4,5,504000,1000000] [(0,.own 1000000 0),(1,vi a1),(4,.own 4 0),(5,.own 5 0)] [(4,26,[vi 0,.str [],.val (.slice none 0 0),.val (.slice none 0 0)]),(5,26,[vi 2,.str [],.val (.slice none 0 0),.val (.slice none 0 0)]),(504000,50,[aK h0.f_l]),(1000000,46,aM 504000 h0)] (Wp.pre (St.l6 5 3 4303 26 (bC _) (by decide) (by kernel_rfl) (L':=[(4,26,[vi 0,.str [],.val (.slice none 0 0),.val (.slice none 0 0)]),(5,26,[vi 2,.str [],.val (.slice none 0 0),.row 4303]),(504000,50,[aK h0.f_l]),(1000000,46,aM 504000 h0)]) (by kernel_rfl)) (kw [0,1,4,5] [4,5,4303,504000,1000000] [(0,.own 1000000 0),(1,vi a1),(4,.own 4 0),(5,.own 5 0)] [(4,26,[vi 0,.str [],.val (.slice none 0 0),.val (.slice none 0 0)]),(5,26,[vi 2,.str [],.val (.slice none 0 0),.row 4303]),(4303,26,[aP []]),(504000,50,[aK h0.f_l]),(1000000,46,aM 504000 h0)] (Wp.weak (K':=[(0,.own 1000000 0),(1,vi a1),(4,.own 4 0),(5,.own 5 0)]) (L':=[(4,26,[vi 0,.str [],ls [],tn4 []]),(5,26,[vi 2,.str [],ls [],.row 4303]),(4303,26,[aP []]),(504000,50,[aK h0.f_l]),(1000000,46,aM 504000 h0)]) (.cons (.refl _) (.cons (.refl _) (.cons (.refl _) (.cons (.refl _) .nil)))) (.cons (.cons (.refl _) (.cons (.refl _) (.cons (.zero _ _) (.cons (.fE _ _ _) .nil)))) (.cons (.cons (.refl _) (.cons (.refl _) (.cons (.zero _ _) (.cons (.refl _) .nil)))) (.cons (.cons (.refl _) .nil) (.cons (.cons (.refl _) .nil) (.cons (.cons (.refl _) (.cons (.refl _) (.cons (.refl _) (.cons (.refl _) .nil)))) .nil))))) (Wp.fP (ou R_block_reader_block__o0_s2 hR_block_reader_block__o0_s2 n a1 n zx3 (af.mk 2 [] [] []) h0 o1 ho1 ?_)))))
 rcases o1 with o1|o1
 ·replace h:=fZ h
  refine To.dW (To.ah (Wp.seq (rg [4] [4,4303,504000,1000000] [(4,.own 4 0)] [(4,26,eX 4303 o1.2.1),(4303,26,[aP o1.2.1.ai]),(504000,50,[aK o1.2.2.f_l]),(1000000,46,aM 504000 o1.2.2)] (To.ah (Wp.ret (To.scope (.inr (.inl rfl)) (kt [4] [4,4303,504000,1000000] [(4,.own 4 0)] [(4,26,eX 4303 o1.2.1),(4303,26,[aP o1.2.1.ai]),(504000,50,[aK o1.2.2.f_l]),(1000000,46,aM 504000 o1.2.2)] (To.pre (St.settle (ks:=[4303]) (kk:=[4]) (kl:=[4,4303,504000,1000000]) (K':=[(4,.own 4 0)]) (L':=[(4,26,eX 4303 o1.2.1),(4303,26,[qf o1.2.1.ai]),(504000,50,[aK o1.2.2.f_l]),(1000000,46,aM 504000 o1.2.2)]) (by kernel_rfl)) (To.pre (St.BG [4] (L':=[(4,26,FT o1.2.1),(4303,26,[qf o1.2.1.ai]),(504000,50,[aK o1.2.2.f_l]),(1000000,46,aM 504000 o1.2.2)]) (by kernel_rfl)) (To.weak (K':=[(4,.own 4 0)]) (L':=[(4,26,qc6 o1.2.1),(4303,26,[qf o1.2.1.ai]),(504000,50,[aK o1.2.2.f_l]),(1000000,46,aM 504000 o1.2.2)]) (.cons (.refl _) .nil) (.cons (.cons (.refl _) (.cons (.refl _) (.cons (.refl _) (.cons (.close _ _ _ _) .nil)))) (.cons (.cons (.refl _) .nil) (.cons (.cons (.refl _) .nil) (.cons (.cons (.refl _) (.cons (.refl _) (.cons (.refl _) (.cons (.refl _) .nil)))) .nil)))) ?_))))))))))
  refine nt [4] [4,504000,1000000] [(504000,200)] [4] [4,200,1000000] [(4,.own 4 0)] [(4,26,qc6 o1.2.1),(200,50,[aK o1.2.2.f_l]),(1000000,46,aM 200 o1.2.2)] ?_
  cases h
  exact To.dL hΓ [200,1000000] (by kernel_rfl) (by kernel_rfl)
 ·replace h:=gv h
  refine To.aR (To.aL (To.scope (.inr (.inl rfl)) (nt [4] [4,504000,1000000] [(504000,200)] [4] [4,200,1000000] [(4,.own 4 0)] [(4,26,qc6 o1.1),(200,50,[aK o1.2.f_l]),(1000000,46,aM 200 o1.2)] ?_)))
  cases h
  exact To.dL hΓ [200,1000000] (by kernel_rfl) (by kernel_rfl)
def eP(n:Nat)(v0:Ls)(v1:Bs)(v7:Int):Nat->Int->Option (Sum (Unit) (Int))
 |0,_=>none
 |k+1,v8=>if(decide (v8<v7))=true then(if(decide (0<=v8/\v8<(List.length v0:Int)))=true then(if(v1==((v0)[Int.toNat v8]?.getD []))=true then(some (.inr v8))
 else(eP n v0 v1 v7 k (IntKind.wrap .i64 (v8+1)))) else none)
 else(some (.inl ()))
theorem nh(n:Nat)(v0:Ls)(v1:Bs)(v7:Int)(k:Nat):∀(v8:Int)(o:Sum (Unit) (Int)),eP n v0 v1 v7 k v8=some o->(Sum.elim (fun s=>To 19 F0 w0 [] [] (.exit 0) Q) (fun s=>To 19 F0 w0 [(4,vi s)] [] .ret Q)) o->WL Tryz.prog 19 F0 w0 [(0,ls v0),(1,.str v1),(7,vi v7),(8,vi v8)] [] (cI (cI (cB (cA (cB (cF Tryz.f125)))))) Q:=by
 induction k with
 |zero=>intro v8 o h;cases h
 |succ k ih =>
  intro v8 o h hQ
  rw[eP] at h
  refine WL.round (Wp.seq (rg [0,1,7,8,9] [] [(0,ls v0),(1,.str v1),(7,vi v7),(8,vi v8),(9,vb (decide (v8<v7)))] [] (To.ah (Wp.seq (cn h (fun h=>?_) (fun h=>?_))))))
  ·refine Wp.skip (To.ah (Wp.seq (Wp.block (Wp.seq (rg [0,1,5,7,8] [] [(0,ls v0),(1,.str v1),(5,vi v8),(7,vi v7),(8,vi v8)] [] (To.ah (Wp.seq ?_)))))))
   obtain⟨hc1,h⟩:=aF h
   refine r0 [0,1,5,7,8,16] [] [(0,ls v0),(1,.str v1),(5,vi v8),(7,vi v7),(8,vi v8),(16,vb (v1==((v0)[Int.toNat v8]?.getD [])))] [] (aj.cons hc1 aj.nil) (To.ah (cn h (fun h=>?_) (fun h=>?_)))
   ·refine Wp.seq (rg [4] [] [(4,vi v8)] [] (To.ah (Wp.ret (To.aR (To.aL (To.aL ?_))))))
    cases h
    exact hQ
   ·refine Wp.skip (To.aS (To.ah (rg [0,1,7,8] [] [(0,ls v0),(1,.str v1),(7,vi v7),(8,vi (IntKind.wrap .i64 (v8+1)))] [] (kt [0,1,7,8] [] [(0,ls v0),(1,.str v1),(7,vi v7),(8,vi (IntKind.wrap .i64 (v8+1)))] [] (To.again ?_)))))
    exact ih (IntKind.wrap .i64 (v8+1)) _ h hQ
  ·refine Wp.exit (To.bU (To.bU (kt [] [] [] [] ?_)))
   cases h
   exact hQ
def iM(n:Nat)(a0:Ls)(a1:Bs):Option (Int) :=
 (eP n a0 a1 (List.length a0:Int) n 0).bind fun o1 =>
 (Sum.elim (fun o1=>some (-1)) (fun o1=>some o1)) o1
theorem ov(n:Nat)(a0:Ls)(a1:Bs)(r:Int)(h:iM n a0 a1=some r):aT Tryz.prog 125 [ls a0,.str a1] (vi r):=by
 unfold iM at h
 refine xo Tryz.f125 rfl fun F0 w0 _=>?_
 refine Wp.seq (rg [0,1] [] [(0,ls a0),(1,.str a1)] [] (To.ah (Wp.seq (Wp.seq (rg [0,1,7,8] [] [(0,ls a0),(1,.str a1),(7,vi (List.length a0:Int)),(8,vi 0)] [] (To.ah (Wp.block ?_)))))))
 obtain⟨o1,ho1,h⟩:=ay h
 refine kw [0,1,7,8] [] [(0,ls a0),(1,.str a1),(7,vi (List.length a0:Int)),(8,vi 0)] [] (Wp.fP (nh n a0 a1 (List.length a0:Int) n 0 o1 ho1 ?_))
 rcases o1 with o1|o1
 ·replace h:=fZ h
  refine To.dW (To.ah (Wp.seq (rg [4] [] [(4,vi (-1))] [] (To.ah (Wp.ret ?_)))))
  cases h
  exact To.done hΓ (by kernel_rfl)
 ·replace h:=gv h
  refine To.aR (To.aL ?_)
  cases h
  exact To.done hΓ (by kernel_rfl)
def gU(n:Nat)(a0:Ls)(a1:Bs):Option (Bool) :=
 (iM n a0 a1).bind fun r1 =>
 some (decide (r1>=0))
theorem mZ(n:Nat)(a0:Ls)(a1:Bs)(r:Bool)(h:gU n a0 a1=some r):aT Tryz.prog 110 [ls a0,.str a1] (vb r):=by
 unfold gU at h
 refine xo Tryz.f110 rfl fun F0 w0 _=>?_
 refine Wp.seq (rg [0,1] [] [(0,ls a0),(1,.str a1)] [] (To.ah (Wp.seq ?_)))
 obtain⟨r1,hr1,h⟩:=ay h
 refine rc [] 2 [4] [] [(4,vb (decide (r1>=0)))] [] (ov n a0 a1 _ hr1) (To.ah (Wp.ret ?_))
 cases h
 exact To.done hΓ (by kernel_rfl)
def ta(n:Nat)(a0:Ls)(a1:Bs):Option (Bool) :=
 (gU n a0 a1).bind fun r1 =>
 some r1
theorem Gp(n:Nat)(a0:Ls)(a1:Bs)(r:Bool)(h:ta n a0 a1=some r):aT Tryz.prog 88 [ls a0,.str a1] (vb r):=by
 unfold ta at h
 refine xo Tryz.f88 rfl fun F0 w0 _=>?_
 refine Wp.seq (rg [0,1] [] [(0,ls a0),(1,.str a1)] [] (To.ah (Wp.seq ?_)))
 obtain⟨r1,hr1,h⟩:=ay h
 refine rc [] 2 [4] [] [(4,vb r1)] [] (mZ n a0 a1 _ hr1) (To.ah (Wp.ret ?_))
 cases h
 exact To.done hΓ (by kernel_rfl)
def pQ(a0:Bs):af :=
 (af.mk 1 a0 [] [])
theorem qQ(a0:Bs)(r:af)(h:pQ a0=r):aT Tryz.prog 111 [.str a0] (.agg (qc6 r)):=by
 unfold pQ at h
 refine xo Tryz.f111 rfl fun F0 w0 _=>?_
 refine Wp.seq (rg [0,2] [2] [(0,.str a0),(2,.own 2 0)] [(2,26,[vi 0,.str [],.val (.slice none 0 0),.val (.slice none 0 0)])] (To.ah (Wp.seq (rg [2] [2] [(2,.own 2 0)] [(2,26,[vi 1,.str a0,.val (.slice none 0 0),.val (.slice none 0 0)])] (To.ah (Wp.ret (To.weak (K':=[(2,.own 2 0)]) (L':=[(2,26,[vi 1,.str a0,ls [],tn4 []])]) (.cons (.refl _) .nil) (.cons (.cons (.refl _) (.cons (.refl _) (.cons (.zero _ _) (.cons (.fE _ _ _) .nil)))) .nil) ?_)))))))
 cases h
 exact To.done hΓ (by kernel_rfl)
def nU(n:Nat)(v0:Bs)(v5:Int):Nat->Int->Option (Sum (Unit) (Bool))
 |0,_=>none
 |k+1,v6=>if(decide (v6<v5))=true then(if(decide (0<=v6/\v6<(List.length v0:Int)))=true then(bM ((decide ((Lib.indexByte ([44,91,93,123,125]:Bs) (Int.toNat (((v0)[Int.toNat v6]?.getD 0).toNat:Int)).toUInt8)>=0)):Bool) fun x1 =>
 if x1=true then(some (.inr false))
 else(nU n v0 v5 k (IntKind.wrap .i64 (v6+1)))) else none)
 else(some (.inl ()))
abbrev Jf(x0:Bs)(x1:Int):=(Lib.indexByte ([44,91,93,123,125]:Bs) (Int.toNat (ex9 x0 x1)).toUInt8)
theorem yQ(n:Nat)(v0:Bs)(v5:Int)(k:Nat):∀(v6:Int)(o:Sum (Unit) (Bool)),nU n v0 v5 k v6=some o->(Sum.elim (fun s=>To 17 F0 w0 [(0,.str v0)] [] (.exit 0) Q) (fun s=>To 17 F0 w0 [(2,vb s)] [] .ret Q)) o->WL Tryz.prog 17 F0 w0 [(0,.str v0),(5,vi v5),(6,vi v6)] [] (cI (cI (cB (cA (cB (cF Tryz.f83)))))) Q:=by
 induction k with
 |zero=>intro v6 o h;cases h
 |succ k ih =>
  intro v6 o h hQ
  rw[nU] at h
  refine WL.round (Wp.seq (rg [0,5,6,7] [] [(0,.str v0),(5,vi v5),(6,vi v6),(7,vb (decide (v6<v5)))] [] (To.ah (Wp.seq (cn h (fun h=>?_) (fun h=>?_))))))
  ·refine Wp.skip (To.ah (Wp.seq (Wp.block (Wp.seq (rg [0,3,5,6] [] [(0,.str v0),(3,vi v6),(5,vi v5),(6,vi v6)] [] (To.ah (Wp.seq ?_)))))))
   obtain⟨hc2,h⟩:=aF h
   obtain⟨x1,hx1,h⟩:=aW h
   refine rr [] [(3,vi (Jf v0 v6))] [] [0,5,6,13] [] [(0,.str v0),(5,vi v5),(6,vi v6),(13,vb (decide ((Jf v0 v6)>=0)))] [] [_,(true=true->CX Tryz.prog 66 [.str [44,91,93,123,125],.val (.int .u8 (ex9 v0 v6))] (vi (Jf v0 v6)))] (aj.cons hc2 (aj.cons (fun _=>cx (Sh.kS)) aj.nil)) (To.eq (K':=[(0,.str v0),(5,vi v5),(6,vi v6),(13,vb x1)]) (L':=[]) (by cases hx1;rfl) (by cases hx1;rfl) (To.ah (cn h (fun h=>?_) (fun h=>?_))))
   ·refine Wp.seq (rg [2] [] [(2,vb false)] [] (To.ah (Wp.ret (To.aR (To.aL (To.aL ?_))))))
    cases h
    exact hQ
   ·refine Wp.skip (To.aS (To.ah (rg [0,5,6] [] [(0,.str v0),(5,vi v5),(Df v6)] [] (kt [0,5,6] [] [(0,.str v0),(5,vi v5),(Df v6)] [] (To.again ?_)))))
    exact ih (IntKind.wrap .i64 (v6+1)) _ h hQ
  ·refine Wp.exit (To.bU (To.bU (kt [0] [] [(0,.str v0)] [] ?_)))
   cases h
   exact hQ
def pO(n:Nat)(a0:Bs):Option (Bool) :=
 (nU n a0 (List.length a0:Int) n 0).bind fun o1 =>
 (Sum.elim (fun o1=>(iw n a0).bind fun r2 =>
 some r2) (fun o1=>some o1)) o1
theorem qP(n:Nat)(a0:Bs)(r:Bool)(h:pO n a0=some r):aT Tryz.prog 83 [.str a0] (vb r):=by
 unfold pO at h
 refine xo Tryz.f83 rfl fun F0 w0 _=>?_
 refine Wp.seq (rg [0] [] [(0,.str a0)] [] (To.ah (Wp.seq (Wp.seq (rg [0,5,6] [] [(0,.str a0),(5,vi (List.length a0:Int)),(6,vi 0)] [] (To.ah (Wp.block ?_)))))))
 obtain⟨o1,ho1,h⟩:=ay h
 refine kw [0,5,6] [] [(0,.str a0),(5,vi (List.length a0:Int)),(6,vi 0)] [] (Wp.fP (yQ n a0 (List.length a0:Int) n 0 o1 ho1 ?_))
 rcases o1 with o1|o1
 ·replace h:=fZ h
  refine To.dW (To.ah (Wp.seq ?_))
  obtain⟨r2,hr2,h⟩:=ay h
  refine rc [] 1 [2] [] [(2,vb r2)] [] (mr n a0 _ hr2) (To.ah (Wp.ret ?_))
  cases h
  exact To.done hΓ (by kernel_rfl)
 ·replace h:=gv h
  refine To.aR (To.aL ?_)
  cases h
  exact To.done hΓ (by kernel_rfl)
def mP(n:Nat)(a0:Bs)(a1:Bool):Option (af×Int) :=
 if(bif (bif (a0==[]) then true else(a0==[126])) then true else(a0==lg))=true then(some ((af.mk 0 [] [] []),0))
 else(if(decide (0<=(0:Int)/\(0:Int)<(List.length a0:Int)))=true then(if((!(((((a0)[Int.toNat 0]?.getD 0).toNat:Int)==34)==false)||decide (0<=(0:Int)/\(0:Int)<(List.length a0:Int))))=true then(if(bif ((((a0)[Int.toNat 0]?.getD 0).toNat:Int)==34) then true else((((a0)[Int.toNat 0]?.getD 0).toNat:Int)==39))=true then((kC n a0 0).bind fun r1 =>
 if(bif (r1.2.2 != 0) then true else(r1.2.1 != (List.length a0:Int)))=true then(some ((af.mk 0 [] [] []),3))
 else(bM (pQ r1.1) fun r2 =>
 some (r2,0)))
 else(((if(a1==true)=true then pO n a0 else some false)).bind fun r3 =>
 ((if(((!a1)==true)&&((bif a1 then r3 else false)==false))=true then iw n a0 else some false)).bind fun r4 =>
 if(bif (bif a1 then r3 else false) then true else(bif (!a1) then r4 else false))=true then(bM (pQ a0) fun r5 =>
 some (r5,0))
 else(some ((af.mk 0 [] [] []),3)))) else none) else none)
theorem tj(n:Nat)(a0:Bs)(a1:Bool)(r:af×Int)(h:mP n a0 a1=some r):aT Tryz.prog 89 [.str a0,vb a1] (.tup [.agg (qc6 r.1),vi r.2]):=by
 unfold mP at h
 refine xo Tryz.f89 rfl fun F0 w0 _=>?_
 refine Wp.seq (rg [0,1,4] [4] [(0,.str a0),(1,vb a1),(4,.own 4 0)] [(4,26,[vi 0,.str [],.val (.slice none 0 0),.val (.slice none 0 0)])] (To.ah (Wp.seq (Wp.block (Wp.seq (rg [0,1,4,9] [4] [(0,.str a0),(1,vb a1),(4,.own 4 0),(9,vb (LS a0))] [(4,26,[vi 0,.str [],.val (.slice none 0 0),.val (.slice none 0 0)])] (To.ah (cn h (fun h=>?_) (fun h=>?_)))))))))
 ·refine Wp.seq (rg [4,5] [4] [(4,.own 4 0),(5,vi 0)] [(4,26,[vi 0,.str [],.val (.slice none 0 0),.val (.slice none 0 0)])] (To.ah (Wp.ret (To.aR (To.aL (To.weak (K':=[(4,.own 4 0),(5,vi 0)]) (L':=[(4,26,[vi 0,.str [],ls [],tn4 []])]) (.cons (.refl _) (.cons (.refl _) .nil)) (.cons (.cons (.refl _) (.cons (.refl _) (.cons (.zero _ _) (.cons (.fE _ _ _) .nil)))) .nil) ?_))))))
  cases h
  exact To.done hΓ (by kernel_rfl)
 ·refine Wp.seq ?_
  obtain⟨hc6,h⟩:=aF h
  obtain⟨hc7,h⟩:=aF h
  refine r0 [0,1,4,21] [4] [(0,.str a0),(1,vb a1),(4,.own 4 0),(21,vb (FZ a0))] [(4,26,[vi 0,.str [],.val (.slice none 0 0),.val (.slice none 0 0)])] (aj.cons hc6 (aj.cons hc7 aj.nil)) (To.ah (cn h (fun h=>?_) (fun h=>?_)))
  ·refine Wp.seq ?_
   obtain⟨r1,hr1,h⟩:=ay h
   refine rc [] 1 [0,4,6,7,8] [4] [(0,.str a0),(4,.own 4 0),(6,.str r1.1),(7,vi r1.2.1),(8,vi r1.2.2)] [(4,26,[vi 0,.str [],.val (.slice none 0 0),.val (.slice none 0 0)])] (kN n a0 0 _ hr1) (To.ah (Wp.seq (Wp.seq (rg [4,6,43] [4] [(4,.own 4 0),(6,.str r1.1),(43,vb (bif (r1.2.2 != 0) then true else(r1.2.1 != (List.length a0:Int))))] [(4,26,[vi 0,.str [],.val (.slice none 0 0),.val (.slice none 0 0)])] (To.ah (cn h (fun h=>?_) (fun h=>?_)))))))
   ·refine Wp.seq (rg [4,5] [4] [(4,.own 4 0),(5,vi 3)] [(4,26,[vi 0,.str [],.val (.slice none 0 0),.val (.slice none 0 0)])] (To.ah (Wp.ret (To.aL (To.aR (To.aL (To.weak (K':=[(4,.own 4 0),(5,vi 3)]) (L':=[(4,26,[vi 0,.str [],ls [],tn4 []])]) (.cons (.refl _) (.cons (.refl _) .nil)) (.cons (.cons (.refl _) (.cons (.refl _) (.cons (.zero _ _) (.cons (.fE _ _ _) .nil)))) .nil) ?_)))))))
    cases h
    exact To.done hΓ (by kernel_rfl)
   ·refine Wp.skip (To.ah (Wp.seq ?_))
    obtain⟨r2,hr2,h⟩:=aW h
    refine rc [] 1 [4,5] [4] [(4,.own 4 0),(5,vi 0)] [(4,26,qc6 r2)] (qQ r1.1 _ hr2) (To.ah (Wp.ret (To.aR (To.aL ?_))))
    cases h
    exact To.done hΓ (by kernel_rfl)
  ·refine Wp.seq ?_
   obtain⟨r3,hr3,h⟩:=ay h
   obtain⟨r4,hr4,h⟩:=ay h
   refine rr [] [(3,vb r3),(10,vb r4)] [] [0,4,47] [4] [(0,.str a0),(4,.own 4 0),(47,vb (bif (bif a1 then r3 else false) then true else(bif (!a1) then r4 else false)))] [(4,26,[vi 0,.str [],.val (.slice none 0 0),.val (.slice none 0 0)])] [((a1==true)=true->CX Tryz.prog 83 [.str a0] (vb r3)),((((!a1)==true)&&((bif a1 then r3 else false)==false))=true->CX Tryz.prog 33 [.str a0] (vb r4))] (aj.cons (fun hg=>cx (qP n a0 _ (iq hg hr3))) (aj.cons (fun hg=>cx (mr n a0 _ (iq hg hr4))) aj.nil)) (To.ah (cn h (fun h=>?_) (fun h=>?_)))
   ·refine Wp.seq ?_
    obtain⟨r5,hr5,h⟩:=aW h
    refine rc [] 1 [4,5] [4] [(4,.own 4 0),(5,vi 0)] [(4,26,qc6 r5)] (qQ a0 _ hr5) (To.ah (Wp.ret (To.aR (To.aL ?_))))
    cases h
    exact To.done hΓ (by kernel_rfl)
   ·refine Wp.skip (To.aS (To.ah (Wp.seq (rg [4,5] [4] [(4,.own 4 0),(5,vi 3)] [(4,26,[vi 0,.str [],.val (.slice none 0 0),.val (.slice none 0 0)])] (To.ah (Wp.ret (To.weak (K':=[(4,.own 4 0),(5,vi 3)]) (L':=[(4,26,[vi 0,.str [],ls [],tn4 []])]) (.cons (.refl _) (.cons (.refl _) .nil)) (.cons (.cons (.refl _) (.cons (.refl _) (.cons (.zero _ _) (.cons (.fE _ _ _) .nil)))) .nil) ?_)))))))
    cases h
    exact To.done hΓ (by kernel_rfl)
structure ak where
 f_s:Bs
 aC:Int
 bD:Bool
def gZ(n:Nat):Nat->ak->Option (ak)
 |0,_=>none
 |k+1,b1000000=>if((!((decide (b1000000.aC<(List.length b1000000.f_s:Int)))==true)||decide (0<=b1000000.aC/\b1000000.aC<(List.length b1000000.f_s:Int))))=true then(bM ((bif (decide (b1000000.aC<(List.length b1000000.f_s:Int))) then((((b1000000.f_s)[Int.toNat b1000000.aC]?.getD 0).toNat:Int)==32) else false):Bool) fun x1 =>
 if x1=true then(gZ n k (ak.mk b1000000.f_s (IntKind.wrap .i64 (b1000000.aC+1)) b1000000.bD))
 else some b1000000) else none
abbrev aH(x:ak):List D:=[.str x.f_s,vi x.aC,vb x.bD]
abbrev xH(x0:ak):Nat×Nat×List D:=(1000000,137,[.str x0.f_s,vi (IntKind.wrap .i64 (x0.aC+1)),vb x0.bD])
abbrev MO(x0:ak):=(((x0.f_s)[Int.toNat x0.aC]?.getD 0).toNat:Int)
abbrev EZ(x0:ak):=(ak.mk x0.f_s (IntKind.wrap .i64 (x0.aC+1)) x0.bD)
abbrev uB(x0:ak):=(List.length x0.f_s:Int)
theorem qm(n:Nat)(k:Nat):∀(b1000000:ak)(o:ak),gZ n k b1000000=some o->To 51 F0 w0 [(0,.own 1000000 0)] [(1000000,137,aH o)] (.exit 0) Q->WL Tryz.prog 51 F0 w0 [(0,.own 1000000 0)] [(1000000,137,aH b1000000)] (cI (cI (cA (cB (cF Tryz.f113))))) Q:=by
 induction k with
 |zero=>intro b1000000 o h;cases h
 |succ k ih =>
  intro b1000000 o h hQ
  rw[gZ] at h
  refine WL.round (Wp.seq (Wp.seq ?_))
  obtain⟨hc2,h⟩:=aF h
  obtain⟨x1,hx1,h⟩:=aW h
  refine Wp.dP hm hΓ [] [0,24] [1000000] (K':=[(0,.own 1000000 0),(24,vb (bif (decide (b1000000.aC<(uB b1000000))) then((MO b1000000)==32) else false))]) (L':=[(1000000,137,aH b1000000)]) (ob:=[(!((decide (b1000000.aC<(uB b1000000)))==true)||decide (0<=b1000000.aC/\b1000000.aC<(uB b1000000)))=true]) (by kernel_rfl) (aj.cons hc2 aj.nil) (To.eq (K':=[(0,.own 1000000 0),(24,vb x1)]) (L':=[(1000000,137,aH b1000000)]) (by cases hx1;rfl) (by cases hx1;rfl) (To.ah (cn h (fun h=>?_) (fun h=>?_))))
  ·refine Wp.skip (To.ah (Wp.block (rg [0] [1000000] [(0,.own 1000000 0)] [(xH b1000000)] (To.aS (To.again ?_)))))
   exact ih (EZ b1000000) _ h hQ
  ·refine Wp.exit (To.bU (To.bU (kt [0] [1000000] [(0,.own 1000000 0)] [(1000000,137,aH b1000000)] ?_)))
   cases h
   exact hQ
def dR(n:Nat)(h0:ak):Option (Int×ak) :=
 (gZ n n h0).bind fun o1 =>
 if(o1.aC==(List.length o1.f_s:Int))=true then(some (0,o1))
 else(if(decide (0<=o1.aC/\o1.aC<(List.length o1.f_s:Int)))=true then(some ((((o1.f_s)[Int.toNat o1.aC]?.getD 0).toNat:Int),o1)) else none)
theorem gW(n:Nat)(h0:ak)(r:Int×ak)(h:dR n h0=some r):aV Tryz.prog 113 [.own 1000000 0] [(1000000,137,aH h0)] (.val (.int .u8 r.1)) [(1000000,137,aH r.2)]:=by
 unfold dR at h
 refine bo Tryz.f113 rfl fun F0 w0=>?_
 refine Wp.seq (rg [0] [1000000] [(0,.own 1000000 0)] [(1000000,137,aH h0)] (To.ah (Wp.seq (Wp.block ?_))))
 obtain⟨o1,ho1,h⟩:=ay h
 refine kw [0] [1000000] [(0,.own 1000000 0)] [(1000000,137,aH h0)] (Wp.fP (qm n n h0 o1 ho1 (To.dW (To.ah (Wp.seq (Wp.seq (Wp.dP hm hΓ [] [0,41] [1000000] (K':=[(0,.own 1000000 0),(41,vb (o1.aC==(List.length o1.f_s:Int)))]) (L':=[(1000000,137,aH o1)]) (ob:=[]) (by kernel_rfl) aj.nil (To.ah (cn h (fun h=>?_) (fun h=>?_))))))))))
 ·refine Wp.seq (rg [2] [1000000] [(2,.val (.int .u8 0))] [(1000000,137,aH o1)] (To.ah (Wp.ret (To.aL ?_))))
  cases h
  exact To.dL hΓ [1000000] (by kernel_rfl) (by kernel_rfl)
 ·refine Wp.skip (To.ah (Wp.seq ?_))
  obtain⟨hc2,h⟩:=aF h
  refine Wp.dP hm hΓ [] [2] [1000000] (K':=[(2,.val (.int .u8 (((o1.f_s)[Int.toNat o1.aC]?.getD 0).toNat:Int)))]) (L':=[(1000000,137,aH o1)]) (ob:=[(decide (0<=o1.aC/\o1.aC<(List.length o1.f_s:Int)))=true]) (by kernel_rfl) (aj.cons hc2 aj.nil) (To.ah (Wp.ret ?_))
  cases h
  exact To.dL hΓ [1000000] (by kernel_rfl) (by kernel_rfl)
def bI(n:Nat)(a1:Int)(h0:ak):Option (Bool×ak) :=
 (dR n h0).bind fun r1 =>
 if(r1.1 != a1)=true then(some (false,r1.2))
 else(some (true,(ak.mk r1.2.f_s (IntKind.wrap .i64 (r1.2.aC+1)) r1.2.bD)))
theorem bQ(n:Nat)(a1:Int)(h0:ak)(r:Bool×ak)(h:bI n a1 h0=some r):aV Tryz.prog 137 [.own 1000000 0,.val (.int .u8 a1)] [(1000000,137,aH h0)] (vb r.1) [(1000000,137,aH r.2)]:=by
 unfold bI at h
 refine bo Tryz.f137 rfl fun F0 w0=>?_
 refine Wp.seq (rg [0,1] [1000000] [(0,.own 1000000 0),(1,.val (.int .u8 a1))] [(1000000,137,aH h0)] (To.ah (Wp.seq (Wp.seq ?_))))
 obtain⟨r1,hr1,h⟩:=ay h
 refine rb [] 1 ⟨[(1000000,1000000)],[(1000000,1000000)],[.own 1000000 0],[(1000000,137,aH h0)],.val (.int .u8 r1.1),[(1000000,137,aH r1.2)]⟩ [0,8] [1000000] [(0,.own 1000000 0),(8,vb (r1.1 != a1))] [(1000000,137,aH r1.2)] ((gW n h0 _ hr1)) (To.ah (cn h (fun h=>?_) (fun h=>?_)))
 ·refine Wp.seq (rg [4] [1000000] [(4,vb false)] [(1000000,137,aH r1.2)] (To.ah (Wp.ret (To.aL ?_))))
  cases h
  exact To.dL hΓ [1000000] (by kernel_rfl) (by kernel_rfl)
 ·refine Wp.skip (To.ah (Wp.seq (rg [] [1000000] [] [(1000000,137,[.str r1.2.f_s,vi (IntKind.wrap .i64 (r1.2.aC+1)),vb r1.2.bD])] (To.ah (Wp.seq (rg [4] [1000000] [(4,vb true)] [(1000000,137,[.str r1.2.f_s,vi (IntKind.wrap .i64 (r1.2.aC+1)),vb r1.2.bD])] (To.ah (Wp.ret ?_))))))))
  cases h
  exact To.dL hΓ [1000000] (by kernel_rfl) (by kernel_rfl)
mutual
def jd(R_flow_reader_value__o0:ak->Option (af×Bool×ak))(n:Nat):Nat->af->ak->Option (af×ak)
 |0,_,_=>none
 |k+1,b2,b1000000=>(bI n 93 (ak.mk b1000000.f_s (IntKind.wrap .i64 (b1000000.aC+1)) b1000000.bD)).bind fun r1 =>
 if r1.1=true then(some ((af.mk 2 [] [] []),r1.2))
 else((R_flow_reader_value__o0 r1.2).bind fun r2 =>
 if(bif r2.2.2.bD then true else(!r2.2.1))=true then(some ((af.mk 2 [] [] []),(ak.mk r2.2.2.f_s r2.2.2.aC (bif r2.2.2.bD then true else(!r2.2.1)))))
 else(if(decide ((List.length ([]:List (af))+List.length ([r2.1]:List (af)))*(72+1)<=limit))=true then((bI n 44 (ak.mk r2.2.2.f_s r2.2.2.aC (bif r2.2.2.bD then true else(!r2.2.1)))).bind fun r3 =>
 if r3.1=true then(gG R_flow_reader_value__o0 n k b2 (af.mk 2 [] [] (([]:List (af))++([r2.1]:List (af)))) r3.2)
 else((bI n 93 r3.2).bind fun r4 =>
 some ((af.mk 2 [] [] (([]:List (af))++([r2.1]:List (af)))),(ak.mk r4.2.f_s r4.2.aC (!r4.1))))) else none))
def gG(R_flow_reader_value__o0:ak->Option (af×Bool×ak))(n:Nat):Nat->af->af->ak->Option (af×ak)
 |0,_,_,_=>none
 |k+1,b2,b3,b1000000=>(R_flow_reader_value__o0 b1000000).bind fun r1 =>
 if(bif r1.2.2.bD then true else(!r1.2.1))=true then(some (b3,(ak.mk r1.2.2.f_s r1.2.2.aC (bif r1.2.2.bD then true else(!r1.2.1)))))
 else(if(decide ((List.length b3.ai+List.length ([r1.1]:List (af)))*(72+1)<=limit))=true then((bI n 44 (ak.mk r1.2.2.f_s r1.2.2.aC (bif r1.2.2.bD then true else(!r1.2.1)))).bind fun r2 =>
 if r2.1=true then(gG R_flow_reader_value__o0 n k b2 (af.mk b3.aD b3.aI b3.av (b3.ai++([r1.1]:List (af)))) r2.2)
 else((bI n 93 r2.2).bind fun r3 =>
 some ((af.mk b3.aD b3.aI b3.av (b3.ai++([r1.1]:List (af)))),(ak.mk r3.2.f_s r3.2.aC (!r3.1))))) else none)
end
abbrev yv(R_flow_reader_value__o0:ak->Option (af×Bool×ak)):Prop:=∀(h0:ak)(r:af×Bool×ak),R_flow_reader_value__o0 h0=some r->aV Tryz.prog 112 [.own 1000000 0] [(1000000,137,[.str h0.f_s,vi h0.aC,vb h0.bD])] (.tup [.agg [vi r.1.aD,.str r.1.aI,ls r.1.av,tn4 r.1.ai],vb r.2.1]) [(1000000,137,[.str r.2.2.f_s,vi r.2.2.aC,vb r.2.2.bD])]
abbrev zE(x0:ak):=(IntKind.wrap .i64 (x0.aC+1))
theorem qy(R_flow_reader_value__o0:ak->Option (af×Bool×ak))(hR_flow_reader_value__o0:yv R_flow_reader_value__o0)(n:Nat)(k:Nat):(∀(b2:af)(b1000000:ak)(o:af×ak),jd R_flow_reader_value__o0 n k b2 b1000000=some o->To 53 F0 w0 [(2,.own 2 0)] [(2,26,eX 4123 o.1),(4123,26,[aP o.1.ai]),(1000000,137,aH o.2)] .ret Q->WG Tryz.prog 53 F0 w0 [(0,.own 1000000 0),(2,.own 2 0)] [(2,26,qc6 b2),(1000000,137,aH b1000000)] (cI (cB (cF Tryz.f126))) (cI (cB (cF Tryz.f126))) Q) /\
 (∀(b2:af)(b3:af)(b1000000:ak)(o:af×ak),gG R_flow_reader_value__o0 n k b2 b3 b1000000=some o->To 53 F0 w0 [(2,.own 2 0)] [(2,26,eX 4123 o.1),(4123,26,[aP o.1.ai]),(1000000,137,aH o.2)] .ret Q->WG Tryz.prog 53 F0 w0 [(0,.own 1000000 0),(2,.own 2 0),(3,.own 3 0)] [(2,26,qc6 b2),(3,26,eX 4183 b3),(4183,26,[aP b3.ai]),(1000000,137,aH b1000000)] (cI (cB (cF Tryz.f126))) (cG 0 (cB (cF Tryz.f126))) Q):=by
 induction k with
 |zero=>exact⟨(by intro b2 b1000000 o h;cases h),(by intro b2 b3 b1000000 o h;cases h)⟩
 |succ k ih =>
  refine⟨?_,?_⟩
  ·intro b2 b1000000 o h hQ
   rw[jd] at h
   refine WG.pass (Wp.seq (rg [0,2,3] [2,3,1000000] [(0,.own 1000000 0),(2,.own 2 0),(3,.own 3 0)] [(2,26,qc6 b2),(3,26,[vi 2,.str [],.val (.slice none 0 0),.val (.slice none 0 0)]),(1000000,137,aH b1000000)] (To.ah (Wp.seq (rg [0,2,3] [2,3,1000000] [(0,.own 1000000 0),(2,.own 2 0),(3,.own 3 0)] [(2,26,qc6 b2),(3,26,[vi 2,.str [],.val (.slice none 0 0),.val (.slice none 0 0)]),(xH b1000000)] (To.ah (Wp.seq (Wp.seq ?_))))))))
   obtain⟨r1,hr1,h⟩:=ay h
   refine rb [] 1 ⟨[(1000000,1000000)],[(1000000,1000000)],[.own 1000000 0,.val (.int .u8 93)],[(xH b1000000)],vb r1.1,[(1000000,137,aH r1.2)]⟩ [0,2,3,15] [2,3,1000000] [(0,.own 1000000 0),(2,.own 2 0),(3,.own 3 0),(15,vb r1.1)] [(2,26,qc6 b2),(3,26,[vi 2,.str [],.val (.slice none 0 0),.val (.slice none 0 0)]),(1000000,137,aH r1.2)] ((bQ n 93 (EZ b1000000) _ hr1)) (To.ah (cn h (fun h=>?_) (fun h=>?_)))
   ·refine Wp.seq (rg [2] [2,1000000] [(2,.own 2 0)] [(2,26,[vi 2,.str [],.val (.slice none 0 0),.val (.slice none 0 0)]),(1000000,137,aH r1.2)] (To.ah (Wp.ret (To.aL (To.jX (.inr (.inl rfl)) (kt [2] [2,1000000] [(2,.own 2 0)] [(2,26,[vi 2,.str [],.val (.slice none 0 0),.val (.slice none 0 0)]),(1000000,137,aH r1.2)] (To.pre (St.l6 2 3 4123 26 (bC _) (by decide) (by kernel_rfl) (L':=[(2,26,[vi 2,.str [],.val (.slice none 0 0),.row 4123]),(1000000,137,aH r1.2)]) (by kernel_rfl)) (kt [2] [2,4123,1000000] [(2,.own 2 0)] [(2,26,[vi 2,.str [],.val (.slice none 0 0),.row 4123]),(4123,26,[aP []]),(1000000,137,aH r1.2)] (To.weak (K':=[(2,.own 2 0)]) (L':=[(2,26,[vi 2,.str [],ls [],.row 4123]),(4123,26,[aP []]),(1000000,137,aH r1.2)]) (.cons (.refl _) .nil) (.cons (.cons (.refl _) (.cons (.refl _) (.cons (.zero _ _) (.cons (.refl _) .nil)))) (.cons (.cons (.refl _) .nil) (.cons (.cons (.refl _) (.cons (.refl _) (.cons (.refl _) .nil))) .nil))) ?_)))))))))
    cases h
    exact hQ
   ·refine Wp.skip (To.ah (Wp.seq (kw [0,2,3,15] [2,3,1000000] [(0,.own 1000000 0),(2,.own 2 0),(3,.own 3 0),(15,vb r1.1)] [(2,26,qc6 b2),(3,26,[vi 2,.str [],.val (.slice none 0 0),.val (.slice none 0 0)]),(1000000,137,aH r1.2)] (Wp.pre (St.l6 3 3 4183 26 (bC _) (by decide) (by kernel_rfl) (L':=[(2,26,qc6 b2),(3,26,[vi 2,.str [],.val (.slice none 0 0),.row 4183]),(1000000,137,aH r1.2)]) (by kernel_rfl)) (kw [0,2,3,15] [2,3,4183,1000000] [(0,.own 1000000 0),(2,.own 2 0),(3,.own 3 0),(15,vb r1.1)] [(2,26,qc6 b2),(3,26,[vi 2,.str [],.val (.slice none 0 0),.row 4183]),(4183,26,[aP []]),(1000000,137,aH r1.2)] (Wp.label (To.ah (Wp.seq ?_))))))))
    obtain⟨r2,hr2,h⟩:=ay h
    refine rb [] 1 ⟨[(1000000,1000000)],[(1000000,1000000)],[.own 1000000 0],[(1000000,137,aH r1.2)],.tup [.agg (qc6 r2.1),vb r2.2.1],[(1000000,137,aH r2.2.2)]⟩ [0,2,3,4,5] [2,3,4,4183,1000000] [(0,.own 1000000 0),(2,.own 2 0),(3,.own 3 0),(4,.own 4 0),(5,vb r2.2.1)] [(2,26,qc6 b2),(3,26,[vi 2,.str [],.val (.slice none 0 0),.row 4183]),(4,26,qc6 r2.1),(4183,26,[aP []]),(1000000,137,aH r2.2.2)] ((hR_flow_reader_value__o0 r1.2 _ hr2)) (To.ah (Wp.seq (Wp.seq (rg [0,2,3,4] [2,3,4,4183,1000000] [(0,.own 1000000 0),(2,.own 2 0),(3,.own 3 0),(4,.own 4 0)] [(2,26,qc6 b2),(3,26,[vi 2,.str [],.val (.slice none 0 0),.row 4183]),(4,26,qc6 r2.1),(4183,26,[aP []]),(1000000,137,[.str r2.2.2.f_s,vi r2.2.2.aC,vb (bif r2.2.2.bD then true else(!r2.2.1))])] (To.ah (Wp.seq (rg [0,2,3,4,36] [2,3,4,4183,1000000] [(0,.own 1000000 0),(2,.own 2 0),(3,.own 3 0),(4,.own 4 0),(36,vb (bif r2.2.2.bD then true else(!r2.2.1)))] [(2,26,qc6 b2),(3,26,[vi 2,.str [],.val (.slice none 0 0),.row 4183]),(4,26,qc6 r2.1),(4183,26,[aP []]),(1000000,137,[.str r2.2.2.f_s,vi r2.2.2.aC,vb (bif r2.2.2.bD then true else(!r2.2.1))])] (To.ah (cn h (fun h=>?_) (fun h=>?_))))))))))
    ·refine Wp.seq (rg [2] [2,4183,1000000] [(2,.own 2 0)] [(2,26,[vi 2,.str [],.val (.slice none 0 0),.row 4183]),(4183,26,[aP []]),(1000000,137,[.str r2.2.2.f_s,vi r2.2.2.aC,vb (bif r2.2.2.bD then true else(!r2.2.1))])] (To.ah (Wp.ret (To.aL (To.jX (.inr (.inl rfl)) (nt [2] [2,4183,1000000] [(4183,4123)] [2] [2,4123,1000000] [(2,.own 2 0)] [(2,26,[vi 2,.str [],.val (.slice none 0 0),.row 4123]),(4123,26,[aP []]),(1000000,137,[.str r2.2.2.f_s,vi r2.2.2.aC,vb (bif r2.2.2.bD then true else(!r2.2.1))])] (To.weak (K':=[(2,.own 2 0)]) (L':=[(2,26,[vi 2,.str [],ls [],.row 4123]),(4123,26,[aP []]),(1000000,137,[.str r2.2.2.f_s,vi r2.2.2.aC,vb (bif r2.2.2.bD then true else(!r2.2.1))])]) (.cons (.refl _) .nil) (.cons (.cons (.refl _) (.cons (.refl _) (.cons (.zero _ _) (.cons (.refl _) .nil)))) (.cons (.cons (.refl _) .nil) (.cons (.cons (.refl _) (.cons (.refl _) (.cons (.refl _) .nil))) .nil))) ?_)))))))
     cases h
     exact hQ
    ·refine Wp.skip (To.ah (Wp.seq ?_))
     obtain⟨hc5,h⟩:=aF h
     refine rr [] [(3,cv [r2.1]),(4,cv (([]:List (af))++([r2.1]:List (af))))] [] [0,2,3] [2,3,42,1000000] [(0,.own 1000000 0),(2,.own 2 0),(3,.own 3 0)] [(2,26,qc6 b2),(3,26,[vi 2,.str [],.val (.slice none 0 0),.row 42]),(42,26,[aP (([]:List (af))++([r2.1]:List (af)))]),(1000000,137,[.str r2.2.2.f_s,vi r2.2.2.aC,vb (bif r2.2.2.bD then true else(!r2.2.1))])] [(dC 4 (qc6 r2.1) 1 (cv [r2.1])/\aQ (cv [r2.1])),_,(eQ zx3 df ([]:List (af)) (List.flatMap df ([r2.1]:List (af))) (List.length ([r2.1]:List (af))) (cv (([]:List (af))++([r2.1]:List (af))))/\aQ (cv (([]:List (af))++([r2.1]:List (af)))))] (aj.cons (fL (by kernel_rfl) rfl (by kernel_rfl) (bC _)) (aj.cons hc5 (aj.cons (eG rfl rfl (bC _)) aj.nil))) (To.ah (Wp.seq (Wp.seq ?_)))
     obtain⟨r3,hr3,h⟩:=ay h
     refine rb [] 1 ⟨[(1000000,1000000)],[(1000000,1000000)],[.own 1000000 0,.val (.int .u8 44)],[(1000000,137,[.str r2.2.2.f_s,vi r2.2.2.aC,vb (bif r2.2.2.bD then true else(!r2.2.1))])],vb r3.1,[(1000000,137,aH r3.2)]⟩ [0,2,3,45] [2,3,42,1000000] [(0,.own 1000000 0),(2,.own 2 0),(3,.own 3 0),(45,vb r3.1)] [(2,26,qc6 b2),(3,26,[vi 2,.str [],.val (.slice none 0 0),.row 42]),(42,26,[aP (([]:List (af))++([r2.1]:List (af)))]),(1000000,137,aH r3.2)] ((bQ n 44 (ak.mk r2.2.2.f_s r2.2.2.aC (bif r2.2.2.bD then true else(!r2.2.1))) _ hr3)) (To.ah (cn h (fun h=>?_) (fun h=>?_)))
     ·refine Wp.goto (To.wI (nt [0,2,3] [2,3,42,1000000] [(42,4183)] [0,2,3] [2,3,4183,1000000] [(0,.own 1000000 0),(2,.own 2 0),(3,.own 3 0)] [(2,26,qc6 b2),(3,26,[vi 2,.str [],.val (.slice none 0 0),.row 4183]),(4183,26,[aP (([]:List (af))++([r2.1]:List (af)))]),(1000000,137,aH r3.2)] (To.weak (K':=[(0,.own 1000000 0),(2,.own 2 0),(3,.own 3 0)]) (L':=[(2,26,qc6 b2),(3,26,[vi 2,.str [],ls [],.row 4183]),(4183,26,[aP (([]:List (af))++([r2.1]:List (af)))]),(1000000,137,aH r3.2)]) (.cons (.refl _) (.cons (.refl _) (.cons (.refl _) .nil))) (.cons (.cons (.refl _) (.cons (.refl _) (.cons (.refl _) (.cons (.refl _) .nil)))) (.cons (.cons (.refl _) (.cons (.refl _) (.cons (.zero _ _) (.cons (.refl _) .nil)))) (.cons (.cons (.refl _) .nil) (.cons (.cons (.refl _) (.cons (.refl _) (.cons (.refl _) .nil))) .nil)))) (To.goto (rest:=cG 0 (cB (cF Tryz.f126))) (by kernel_rfl) ?_))))
      exact ih.2 b2 (af.mk 2 [] [] (([]:List (af))++([r2.1]:List (af)))) r3.2 _ h hQ
     ·refine Wp.skip (To.ah (Wp.seq ?_))
      obtain⟨r4,hr4,h⟩:=ay h
      refine rb [] 2 ⟨[(1000000,1000000)],[(1000000,1000000)],[.own 1000000 0,.val (.int .u8 93)],[(1000000,137,aH r3.2)],vb r4.1,[(1000000,137,aH r4.2)]⟩ [2,3] [2,3,42,1000000] [(2,.own 2 0),(3,.own 3 0)] [(2,26,qc6 b2),(3,26,[vi 2,.str [],.val (.slice none 0 0),.row 42]),(42,26,[aP (([]:List (af))++([r2.1]:List (af)))]),(1000000,137,[.str r4.2.f_s,vi r4.2.aC,vb (!r4.1)])] ((bQ n 93 r3.2 _ hr4)) (To.ah (Wp.seq (rg [2] [2,42,1000000] [(2,.own 2 0)] [(2,26,[vi 2,.str [],.val (.slice none 0 0),.row 42]),(42,26,[aP (([]:List (af))++([r2.1]:List (af)))]),(1000000,137,[.str r4.2.f_s,vi r4.2.aC,vb (!r4.1)])] (To.ah (Wp.ret (To.jX (.inr (.inl rfl)) (nt [2] [2,42,1000000] [(42,4123)] [2] [2,4123,1000000] [(2,.own 2 0)] [(2,26,[vi 2,.str [],.val (.slice none 0 0),.row 4123]),(4123,26,[aP (([]:List (af))++([r2.1]:List (af)))]),(1000000,137,[.str r4.2.f_s,vi r4.2.aC,vb (!r4.1)])] (To.weak (K':=[(2,.own 2 0)]) (L':=[(2,26,[vi 2,.str [],ls [],.row 4123]),(4123,26,[aP (([]:List (af))++([r2.1]:List (af)))]),(1000000,137,[.str r4.2.f_s,vi r4.2.aC,vb (!r4.1)])]) (.cons (.refl _) .nil) (.cons (.cons (.refl _) (.cons (.refl _) (.cons (.zero _ _) (.cons (.refl _) .nil)))) (.cons (.cons (.refl _) .nil) (.cons (.cons (.refl _) (.cons (.refl _) (.cons (.refl _) .nil))) .nil))) ?_))))))))
      cases h
      exact hQ
  ·intro b2 b3 b1000000 o h hQ
   rw[gG] at h
   refine WG.pass (Wp.seq (Wp.skip (To.ah (Wp.seq ?_))))
   obtain⟨r1,hr1,h⟩:=ay h
   refine rb [] 1 ⟨[(1000000,1000000)],[(1000000,1000000)],[.own 1000000 0],[(1000000,137,aH b1000000)],.tup [.agg (qc6 r1.1),vb r1.2.1],[(1000000,137,aH r1.2.2)]⟩ [0,2,3,4,5] [2,3,4,4183,1000000] [(0,.own 1000000 0),(2,.own 2 0),(3,.own 3 0),(4,.own 4 0),(5,vb r1.2.1)] [(2,26,qc6 b2),(3,26,eX 4183 b3),(4,26,qc6 r1.1),(4183,26,[aP b3.ai]),(1000000,137,aH r1.2.2)] ((hR_flow_reader_value__o0 b1000000 _ hr1)) (To.ah (Wp.seq (Wp.seq (rg [0,2,3,4] [2,3,4,4183,1000000] [(0,.own 1000000 0),(2,.own 2 0),(3,.own 3 0),(4,.own 4 0)] [(2,26,qc6 b2),(3,26,eX 4183 b3),(4,26,qc6 r1.1),(4183,26,[aP b3.ai]),(1000000,137,[.str r1.2.2.f_s,vi r1.2.2.aC,vb (bif r1.2.2.bD then true else(!r1.2.1))])] (To.ah (Wp.seq (rg [0,2,3,4,36] [2,3,4,4183,1000000] [(0,.own 1000000 0),(2,.own 2 0),(3,.own 3 0),(4,.own 4 0),(36,vb (bif r1.2.2.bD then true else(!r1.2.1)))] [(2,26,qc6 b2),(3,26,eX 4183 b3),(4,26,qc6 r1.1),(4183,26,[aP b3.ai]),(1000000,137,[.str r1.2.2.f_s,vi r1.2.2.aC,vb (bif r1.2.2.bD then true else(!r1.2.1))])] (To.ah (cn h (fun h=>?_) (fun h=>?_))))))))))
   ·refine Wp.seq (rg [2] [2,4183,1000000] [(2,.own 2 0)] [(2,26,eX 4183 b3),(4183,26,[aP b3.ai]),(1000000,137,[.str r1.2.2.f_s,vi r1.2.2.aC,vb (bif r1.2.2.bD then true else(!r1.2.1))])] (To.ah (Wp.ret (To.aL (To.jX (.inr (.inl rfl)) (nt [2] [2,4183,1000000] [(4183,4123)] [2] [2,4123,1000000] [(2,.own 2 0)] [(2,26,eX 4123 b3),(4123,26,[aP b3.ai]),(1000000,137,[.str r1.2.2.f_s,vi r1.2.2.aC,vb (bif r1.2.2.bD then true else(!r1.2.1))])] ?_))))))
    cases h
    exact hQ
   ·refine Wp.skip (To.ah (Wp.seq ?_))
    obtain⟨hc4,h⟩:=aF h
    refine rr [] [(3,cv [r1.1]),(4,cv (b3.ai++([r1.1]:List (af))))] [] [0,2,3] [2,3,42,1000000] [(0,.own 1000000 0),(2,.own 2 0),(3,.own 3 0)] [(2,26,qc6 b2),(3,26,eX 42 b3),(42,26,[aP (b3.ai++([r1.1]:List (af)))]),(1000000,137,[.str r1.2.2.f_s,vi r1.2.2.aC,vb (bif r1.2.2.bD then true else(!r1.2.1))])] [(dC 4 (qc6 r1.1) 1 (cv [r1.1])/\aQ (cv [r1.1])),_,(eQ zx3 df b3.ai (List.flatMap df ([r1.1]:List (af))) (List.length ([r1.1]:List (af))) (cv (b3.ai++([r1.1]:List (af))))/\aQ (cv (b3.ai++([r1.1]:List (af)))))] (aj.cons (fL (by kernel_rfl) rfl (by kernel_rfl) (bC _)) (aj.cons hc4 (aj.cons (eG rfl rfl (bC _)) aj.nil))) (To.ah (Wp.seq (Wp.seq ?_)))
    obtain⟨r2,hr2,h⟩:=ay h
    refine rb [] 1 ⟨[(1000000,1000000)],[(1000000,1000000)],[.own 1000000 0,.val (.int .u8 44)],[(1000000,137,[.str r1.2.2.f_s,vi r1.2.2.aC,vb (bif r1.2.2.bD then true else(!r1.2.1))])],vb r2.1,[(1000000,137,aH r2.2)]⟩ [0,2,3,45] [2,3,42,1000000] [(0,.own 1000000 0),(2,.own 2 0),(3,.own 3 0),(45,vb r2.1)] [(2,26,qc6 b2),(3,26,eX 42 b3),(42,26,[aP (b3.ai++([r1.1]:List (af)))]),(1000000,137,aH r2.2)] ((bQ n 44 (ak.mk r1.2.2.f_s r1.2.2.aC (bif r1.2.2.bD then true else(!r1.2.1))) _ hr2)) (To.ah (cn h (fun h=>?_) (fun h=>?_)))
    ·refine Wp.goto (To.wI (nt [0,2,3] [2,3,42,1000000] [(42,4183)] [0,2,3] [2,3,4183,1000000] [(0,.own 1000000 0),(2,.own 2 0),(3,.own 3 0)] [(2,26,qc6 b2),(3,26,eX 4183 b3),(4183,26,[aP (b3.ai++([r1.1]:List (af)))]),(1000000,137,aH r2.2)] (To.goto (rest:=cG 0 (cB (cF Tryz.f126))) (by kernel_rfl) ?_)))
     exact ih.2 b2 (af.mk b3.aD b3.aI b3.av (b3.ai++([r1.1]:List (af)))) r2.2 _ h hQ
    ·refine Wp.skip (To.ah (Wp.seq ?_))
     obtain⟨r3,hr3,h⟩:=ay h
     refine rb [] 2 ⟨[(1000000,1000000)],[(1000000,1000000)],[.own 1000000 0,.val (.int .u8 93)],[(1000000,137,aH r2.2)],vb r3.1,[(1000000,137,aH r3.2)]⟩ [2,3] [2,3,42,1000000] [(2,.own 2 0),(3,.own 3 0)] [(2,26,qc6 b2),(3,26,eX 42 b3),(42,26,[aP (b3.ai++([r1.1]:List (af)))]),(1000000,137,[.str r3.2.f_s,vi r3.2.aC,vb (!r3.1)])] ((bQ n 93 r2.2 _ hr3)) (To.ah (Wp.seq (rg [2] [2,42,1000000] [(2,.own 2 0)] [(2,26,eX 42 b3),(42,26,[aP (b3.ai++([r1.1]:List (af)))]),(1000000,137,[.str r3.2.f_s,vi r3.2.aC,vb (!r3.1)])] (To.ah (Wp.ret (To.jX (.inr (.inl rfl)) (nt [2] [2,42,1000000] [(42,4123)] [2] [2,4123,1000000] [(2,.own 2 0)] [(2,26,eX 4123 b3),(4123,26,[aP (b3.ai++([r1.1]:List (af)))]),(1000000,137,[.str r3.2.f_s,vi r3.2.aC,vb (!r3.1)])] ?_)))))))
     cases h
     exact hQ
def lh(R_flow_reader_value__o0:ak->Option (af×Bool×ak))(n:Nat)(h0:ak):Option (af×ak) :=
 (jd R_flow_reader_value__o0 n n (af.mk 0 [] [] []) h0).bind fun o1 =>
 some (o1.1,o1.2)
theorem sR(R_flow_reader_value__o0:ak->Option (af×Bool×ak))(hR_flow_reader_value__o0:yv R_flow_reader_value__o0)(n:Nat)(h0:ak)(r:af×ak)(h:lh R_flow_reader_value__o0 n h0=some r):aV Tryz.prog 126 [.own 1000000 0] [(1000000,137,aH h0)] (.agg (qc6 r.1)) [(1000000,137,aH r.2)]:=by
 unfold lh at h
 refine bo Tryz.f126 rfl fun F0 w0=>?_
 refine Wp.seq (rg [0,2] [2,1000000] [(0,.own 1000000 0),(2,.own 2 0)] [(2,26,[vi 0,.str [],.val (.slice none 0 0),.val (.slice none 0 0)]),(1000000,137,aH h0)] (To.ah ?_))
 obtain⟨o1,ho1,h⟩:=ay h
 refine kw [0,2] [2,1000000] [(0,.own 1000000 0),(2,.own 2 0)] [(2,26,[vi 0,.str [],.val (.slice none 0 0),.val (.slice none 0 0)]),(1000000,137,aH h0)] (Wp.weak (K':=[(0,.own 1000000 0),(2,.own 2 0)]) (L':=[(2,26,[vi 0,.str [],ls [],tn4 []]),(1000000,137,aH h0)]) (.cons (.refl _) (.cons (.refl _) .nil)) (.cons (.cons (.refl _) (.cons (.refl _) (.cons (.zero _ _) (.cons (.fE _ _ _) .nil)))) (.cons (.cons (.refl _) (.cons (.refl _) (.cons (.refl _) .nil))) .nil)) (Wp.BR ((qy R_flow_reader_value__o0 hR_flow_reader_value__o0 n n).1 zx3 h0 o1 ho1 (kt [2] [2,4123,1000000] [(2,.own 2 0)] [(2,26,eX 4123 o1.1),(4123,26,[aP o1.1.ai]),(1000000,137,aH o1.2)] (To.pre (St.settle (ks:=[4123]) (kk:=[2]) (kl:=[2,4123,1000000]) (K':=[(2,.own 2 0)]) (L':=[(2,26,eX 4123 o1.1),(4123,26,[qf o1.1.ai]),(1000000,137,aH o1.2)]) (by kernel_rfl)) (To.pre (St.BG [2] (L':=[(2,26,FT o1.1),(4123,26,[qf o1.1.ai]),(1000000,137,aH o1.2)]) (by kernel_rfl)) (To.weak (K':=[(2,.own 2 0)]) (L':=[(2,26,qc6 o1.1),(4123,26,[qf o1.1.ai]),(1000000,137,aH o1.2)]) (.cons (.refl _) .nil) (.cons (.cons (.refl _) (.cons (.refl _) (.cons (.refl _) (.cons (.close _ _ _ _) .nil)))) (.cons (.cons (.refl _) .nil) (.cons (.cons (.refl _) (.cons (.refl _) (.cons (.refl _) .nil))) .nil))) ?_)))))))
 cases h
 exact To.dL hΓ [1000000] (by kernel_rfl) (by kernel_rfl)
def rS:Int->List D:=fun x=>[.val (.int .i64 x)]
def iz(n:Nat)(h0:ak):Option (Bs×ak) :=
 (kC n h0.f_s h0.aC).bind fun r1 =>
 if(r1.2.2 != 0)=true then(some ([],(ak.mk h0.f_s h0.aC true)))
 else(some (r1.1,(ak.mk h0.f_s r1.2.1 h0.bD)))
end Go.Proofs.YtefojkdckfidcaaGreatDoor.M
