import Derived.Test.YtefojkdckfidcaaGreatDoorQMB11a
set_option linter.all false
namespace Go.Proofs.YtefojkdckfidcaaGreatDoor.M
open Go.RowKit Go.Proofs.YtefojkdckfidcaaGreatDoor.RX
set_option maxRecDepth 100000
def tf(n:Nat)(a0:av)(a1:Int):Option (av) :=
 if(bif (decide (a1<0)) then true else(decide (a1>(List.length a0.au:Int))))=true then some a0
 else(if(decide (0<=a1/\a1<=(List.length a0.au:Int)))=true then(aP ((IntKind.wrap .i64 ((IntKind.wrap .i64 (a0.aI+(List.length a0.au:Int)))-(List.length (Lib.trimLeftB (List.drop (Int.toNat a1) a0.au) 32):Int))):Int) fun x1 =>
 some (av.mk a0.eG x1 (Lib.trimLeftB (List.drop (Int.toNat a1) a0.au) 32))) else none)
abbrev qc3(x:av):List D:=[vi x.eG,vi x.aI,.str x.au]
abbrev Cb(x0:Int)(x1:av):=(Lib.trimLeftB (List.drop (Int.toNat x0) x1.au) 32)
theorem GL(n:Nat)(a0:av)(a1:Int)(r:av)(h:tf n a0 a1=some r):bC Tryz.prog 87 [.agg (qc3 a0),vi a1] (.agg (qc3 r)):=by
 unfold tf at h
 refine xo Tryz.f87 rfl fun F0 w0 _=>?_
 refine Wp.seq (rg [1,2,4] [2,4] [(1,vi a1),(2,.own 2 0),(4,.own 4 0)] [(2,50,qc3 a0),(4,50,[vi 0,vi 0,.str []])] (To.ai (Wp.seq (Wp.seq (rg [1,2,4,14] [2,4] [(1,vi a1),(2,.own 2 0),(4,.own 4 0),(14,vb (bif (decide (a1<0)) then true else(decide (a1>(List.length a0.au:Int)))))] [(2,50,qc3 a0),(4,50,[vi 0,vi 0,.str []])] (To.ai (cn h (fun h=>?_) (fun h=>?_))))))))
 ·refine Wp.seq (rg [4] [4] [(4,.own 4 0)] [(4,50,qc3 a0)] (To.ai (Wp.ret (To.aO ?_))))
  cases h
  exact To.done hΓ (by kernel_rfl)
 ·refine Wp.skip (To.ai (Wp.seq ?_))
  obtain⟨hc2,h⟩:=aK h
  refine rr [] [(4,.str (Cb a1 a0))] [] [2,4,5] [2,4] [(2,.own 2 0),(4,.own 4 0),(5,.str (Cb a1 a0))] [(2,50,qc3 a0),(4,50,[vi 0,vi 0,.str []])] [_,(true=true->CX Tryz.prog 34 [.str (List.drop (Int.toNat a1) a0.au),.str [32]] (.str (Cb a1 a0)))] (ax.cons hc2 (ax.cons (fun _=>cx (Sh.uS (by decide))) ax.nil)) (To.ai (Wp.seq ?_))
  obtain⟨x1,hx1,h⟩:=bV h
  refine rg [4] [4] [(4,.own 4 0)] [(4,50,[vi a0.eG,vi (IntKind.wrap .i64 ((IntKind.wrap .i64 (a0.aI+(List.length a0.au:Int)))-(List.length (Cb a1 a0):Int))),.str (Cb a1 a0)])] (To.eq (K':=[(4,.own 4 0)]) (L':=[(4,50,[vi a0.eG,vi x1,.str (Cb a1 a0)])]) (by cases hx1;rfl) (by cases hx1;rfl) (To.ai (Wp.ret ?_)))
  cases h
  exact To.done hΓ (by kernel_rfl)
def mr(n:Nat)(v0:Bs)(v5:List (av))(v6:Int):Option (Sum (Bs×(List (av))) (Int×Int)) :=
 if(decide (List.length v0<4294967281))=true then(aP ((IntKind.wrap .i64 ((List.length ((Lib.cut v0 ([10]:Bs)).1):Int)-(List.length (Lib.trimLeftB ((Lib.cut v0 ([10]:Bs)).1) 32):Int))):Int) fun x2 =>
 if(decide (0<=x2/\x2<=(List.length ((Lib.cut v0 ([10]:Bs)).1):Int)))=true then((iE n (List.drop (Int.toNat x2) ((Lib.cut v0 ([10]:Bs)).1))).bind fun r3 =>
 aP ((bif (!r3.2) then true else(bif (x2==0) then(bif (r3.1==[45,45,45]) then true else(r3.1==[46,46,46])) else false)):Bool) fun x4 =>
 if x4=true then(some (.inr (v6,3)))
 else(if(!(r3.1==[]))=true then(if(decide ((List.length v5+List.length ([(av.mk v6 x2 r3.1)]:List (av)))*(32+1)<=limit))=true then(some (.inl ((Lib.cut v0 ([10]:Bs)).2.1,(v5++([(av.mk v6 x2 r3.1)]:List (av)))))) else none)
 else(some (.inl ((Lib.cut v0 ([10]:Bs)).2.1,v5))))) else none) else none
abbrev zx4:av:=av.mk 0 0 []
abbrev rc5(l:List (av)):D:=.aN false (α:=av) zx4 lS l
abbrev rs6(l:List (av)):D:=.recs (α:=av) zx4 lS l
abbrev ji(x0:Bs):=(Lib.cut x0 ([10]:Bs))
variable {F0:Fz} {w0:Pt Tryz.prog} {Q:Exit->Act->World->Prop}
theorem xH(n:Nat)(v0:Bs)(v5:List (av))(v6:Int)(o:Sum (Bs×(List (av))) (Int×Int))(h:mr n v0 v5 v6=some o)(hQ:(Sum.elim (fun s=>To 65 F0 w0 [(0,.str s.1),(5,.row 1005),(6,vi v6)] [(1005,50,[rc5 s.2])] .normal Q) (fun s=>To 65 F0 w0 [(2,.val (.slice none 0 0)),(3,vi s.1),(4,vi s.2)] [] .ret Q)) o):Wp Tryz.prog 65 F0 w0 [(0,.str v0),(5,.row 1005),(6,vi v6)] [(1005,50,[rc5 v5])] (cA (cB (cI (cI (cB (cA (cB (cB (cB (cF Tryz.f23)))))))))) Q:=by
 unfold mr at h
 refine Wp.block (Wp.seq ?_)
 obtain⟨u1,h⟩:=aK h
 refine rr [] [(1,.tup [.str ((ji v0).1),.str ((ji v0).2.1),vb ((ji v0).2.2)])] [] [5,6,7,8] [1005] [(5,.row 1005),(6,vi v6),(7,.str ((ji v0).1)),(8,.str ((ji v0).2.1))] [(1005,50,[rc5 v5])] [(true=true->CX Tryz.prog 53 [.str v0,.str [10]] (.tup [.str ((ji v0).1),.str ((ji v0).2.1),vb ((ji v0).2.2)]))] (ax.cons (fun _=>cx (Sh.RI u1)) ax.nil) (To.ai (Wp.seq (rg [0,5,6,7] [1005] [(0,.str ((ji v0).2.1)),(5,.row 1005),(6,vi v6),(7,.str ((ji v0).1))] [(1005,50,[rc5 v5])] (To.ai (Wp.seq ?_)))))
 obtain⟨x2,hx2,h⟩:=bV h
 refine rr [] [(3,.str (Lib.trimLeftB ((ji v0).1) 32))] [] [0,5,6,7,10] [1005] [(0,.str ((ji v0).2.1)),(5,.row 1005),(6,vi v6),(7,.str ((ji v0).1)),(10,vi (IntKind.wrap .i64 ((List.length ((ji v0).1):Int)-(List.length (Lib.trimLeftB ((ji v0).1) 32):Int))))] [(1005,50,[rc5 v5])] [(true=true->CX Tryz.prog 34 [.str ((ji v0).1),.str [32]] (.str (Lib.trimLeftB ((ji v0).1) 32)))] (ax.cons (fun _=>cx (Sh.uS (by decide))) ax.nil) (To.eq (K':=[(0,.str ((ji v0).2.1)),(5,.row 1005),(6,vi v6),(7,.str ((ji v0).1)),(10,vi x2)]) (L':=[(1005,50,[rc5 v5])]) (by cases hx2;rfl) (by cases hx2;rfl) (To.ai (Wp.seq ?_)))
 obtain⟨hc6,h⟩:=aK h
 obtain⟨r3,hr3,h⟩:=aG h
 refine rr [] [(3,.tup [.str r3.1,vb r3.2])] [] [0,5,6,10,11,12] [1005] [(0,.str ((ji v0).2.1)),(5,.row 1005),(6,vi v6),(10,vi x2),(11,.str r3.1),(12,vb r3.2)] [(1005,50,[rc5 v5])] [_,_] (ax.cons hc6 (ax.cons (c1 (GM n (List.drop (Int.toNat x2) ((ji v0).1)) _ hr3)) ax.nil)) (To.ai (Wp.seq (Wp.seq ?_)))
 obtain⟨x4,hx4,h⟩:=bV h
 refine rg [0,5,6,10,11,53] [1005] [(0,.str ((ji v0).2.1)),(5,.row 1005),(6,vi v6),(10,vi x2),(11,.str r3.1),(53,vb (bif (!r3.2) then true else(bif (x2==0) then(bif (r3.1==[45,45,45]) then true else(r3.1==[46,46,46])) else false)))] [(1005,50,[rc5 v5])] (To.eq (K':=[(0,.str ((ji v0).2.1)),(5,.row 1005),(6,vi v6),(10,vi x2),(11,.str r3.1),(53,vb x4)]) (L':=[(1005,50,[rc5 v5])]) (by cases hx4;rfl) (by cases hx4;rfl) (To.ai (cn h (fun h=>?_) (fun h=>?_))))
 ·refine Wp.seq (rg [2,3,4] [] [(2,.val (.slice none 0 0)),(3,vi v6),(4,vi 3)] [] (To.ai (Wp.ret (To.aO (To.aX ?_)))))
  cases h
  exact hQ
 ·refine Wp.skip (To.ai (Wp.seq (rg [0,5,6,10,11,56] [1005] [(0,.str ((ji v0).2.1)),(5,.row 1005),(6,vi v6),(10,vi x2),(11,.str r3.1),(56,vb (!(r3.1==[])))] [(1005,50,[rc5 v5])] (To.ai (cn h (fun h=>?_) (fun h=>?_))))))
  ·obtain⟨hc5,h⟩:=aK h
   refine rr [] [(5,rs6 [(av.mk v6 x2 r3.1)]),(6,rs6 (v5++([(av.mk v6 x2 r3.1)]:List (av))))] [] [0,5,6] [63] [(0,.str ((ji v0).2.1)),(5,.row 63),(6,vi v6)] [(63,50,[rc5 (v5++([(av.mk v6 x2 r3.1)]:List (av)))])] [(fV 3 [vi v6,vi x2,.str r3.1] 1 (rs6 [(av.mk v6 x2 r3.1)])/\aV (rs6 [(av.mk v6 x2 r3.1)])),_,(i7 zx4 lS v5 (List.flatMap lS ([(av.mk v6 x2 r3.1)]:List (av))) (List.length ([(av.mk v6 x2 r3.1)]:List (av))) (rs6 (v5++([(av.mk v6 x2 r3.1)]:List (av))))/\aV (rs6 (v5++([(av.mk v6 x2 r3.1)]:List (av)))))] (ax.cons (jY (by kernel_rfl) rfl (by kernel_rfl) (jW _)) (ax.cons hc5 (ax.cons (ja rfl rfl (jW _)) ax.nil))) (To.br (nt [0,5,6] [63] [(63,1005)] [0,5,6] [1005] [(0,.str ((ji v0).2.1)),(5,.row 1005),(6,vi v6)] [(1005,50,[rc5 (v5++([(av.mk v6 x2 r3.1)]:List (av)))])] ?_))
   cases h
   exact hQ
  ·refine Wp.skip (To.br (kt [0,5,6] [1005] [(0,.str ((ji v0).2.1)),(5,.row 1005),(6,vi v6)] [(1005,50,[rc5 v5])] ?_))
   cases h
   exact hQ
def jv(n:Nat):Nat->Bs->(List (av))->Int->Option (Sum ((List (av))) (Int×Int))
 |0,_,_,_=>none
 |k+1,v0,v5,v6=>if(!(v0==[]))=true then((mr n v0 v5 v6).bind fun o1 =>
 (Sum.elim (fun o1=>jv n k o1.1 o1.2 (IntKind.wrap .i64 (v6+1))) (fun o1=>some (.inr (o1.1,o1.2)))) o1)
 else(some (.inl v5))
theorem xt(n:Nat)(k:Nat):∀(v0:Bs)(v5:List (av))(v6:Int)(o:Sum ((List (av))) (Int×Int)),jv n k v0 v5 v6=some o->(Sum.elim (fun s=>To 65 F0 w0 [(5,.row 1005)] [(1005,50,[rc5 s])] (.exit 0) Q) (fun s=>To 65 F0 w0 [(2,.val (.slice none 0 0)),(3,vi s.1),(4,vi s.2)] [] .ret Q)) o->WL Tryz.prog 65 F0 w0 [(0,.str v0),(5,.row 1005),(6,vi v6)] [(1005,50,[rc5 v5])] (cI (cI (cB (cA (cB (cB (cB (cF Tryz.f23)))))))) Q:=by
 induction k with
 |zero=>intro v0 v5 v6 o h;cases h
 |succ k ih =>
  intro v0 v5 v6 o h hQ
  rw[jv] at h
  refine WL.round (Wp.seq (Wp.seq (rg [0,5,6,17] [1005] [(0,.str v0),(5,.row 1005),(6,vi v6),(17,vb (!(v0==[])))] [(1005,50,[rc5 v5])] (To.ai (cn h (fun h=>?_) (fun h=>?_))))))
  ·refine Wp.skip (To.ai (Wp.seq ?_))
   obtain⟨o1,ho1,h⟩:=aG h
   refine kw [0,5,6] [1005] [(0,.str v0),(5,.row 1005),(6,vi v6)] [(1005,50,[rc5 v5])] (xH n v0 v5 v6 o1 ho1 ?_)
   rcases o1 with o1|o1
   ·replace h:=jy h
    refine To.ai (rg [0,5,6] [1005] [(0,.str o1.1),(5,.row 1005),(6,vi (IntKind.wrap .i64 (v6+1)))] [(1005,50,[rc5 o1.2])] (kt [0,5,6] [1005] [(0,.str o1.1),(5,.row 1005),(6,vi (IntKind.wrap .i64 (v6+1)))] [(1005,50,[rc5 o1.2])] (To.again ?_)))
    exact ih o1.1 o1.2 (IntKind.wrap .i64 (v6+1)) _ h hQ
   ·replace h:=ju h
    refine To.aO (To.aO (kt [2,3,4] [] [(2,.val (.slice none 0 0)),(3,vi o1.1),(4,vi o1.2)] [] ?_))
    cases h
    exact hQ
  ·refine Wp.exit (To.dZ (To.dZ (kt [5] [1005] [(5,.row 1005)] [(1005,50,[rc5 v5])] ?_)))
   cases h
   exact hQ
def kG(n:Nat)(a0:Bs):Option ((List (av))×Int×Int) :=
 if(decide ((List.length a0:Int)>8192))=true then(some (([]:List (av)),0,9))
 else((jv n n a0 ([]:List (av)) 1).bind fun o1 =>
 (Sum.elim (fun o1=>some (o1,0,0)) (fun o1=>some (([]:List (av)),o1.1,o1.2))) o1)
theorem An(n:Nat)(a0:Bs)(r:(List (av))×Int×Int)(h:kG n a0=some r):aY Tryz.prog 23 [.str a0] [] (.tup [.row 1,vi r.2.1,vi r.2.2]) [(1,50,[rc5 r.1])]:=by
 unfold kG at h
 refine bo Tryz.f23 rfl fun F0 w0=>?_
 refine Wp.seq (rg [0] [] [(0,.str a0)] [] (To.ai (Wp.seq (Wp.seq (rg [0,15] [] [(0,.str a0),(15,vb (decide ((List.length a0:Int)>8192)))] [] (To.ai (cn h (fun h=>?_) (fun h=>?_))))))))
 ·refine Wp.seq (rg [2,3,4] [] [(2,.val (.slice none 0 0)),(3,vi 0),(4,vi 9)] [] (To.ai (Wp.ret (To.aO (To.pre (St.Bm (t:=2) (k:=1002) (e:=50) (K':=[(2,.row 1002),(3,vi 0),(4,vi 9)]) (jW _) (by decide) (by kernel_rfl) (by kernel_rfl)) (kt [2,3,4] [1002] [(2,.row 1002),(3,vi 0),(4,vi 9)] [(1002,50,[rc5 []])] (To.pre (St.rename 1002 1 (by decide) (K':=[(2,.row 1),(3,vi 0),(4,vi 9)]) (L':=[(1,50,[rc5 []])]) (by kernel_rfl) (by kernel_rfl) (by kernel_rfl)) ?_)))))))
  cases h
  exact To.ff hΓ [1] (by kernel_rfl) (by kernel_rfl)
 ·refine Wp.skip (To.ai (Wp.seq (rg [0,5] [] [(0,.str a0),(5,.val (.slice none 0 0))] [] (To.ai (Wp.seq (Wp.seq (rg [0,5,6] [] [(0,.str a0),(5,.val (.slice none 0 0)),(6,vi 1)] [] (To.ai (Wp.block ?_)))))))))
  obtain⟨o1,ho1,h⟩:=aG h
  refine kw [0,5,6] [] [(0,.str a0),(5,.val (.slice none 0 0)),(6,vi 1)] [] (Wp.pre (St.Bm (t:=5) (k:=1005) (e:=50) (K':=[(0,.str a0),(5,.row 1005),(6,vi 1)]) (jW _) (by decide) (by kernel_rfl) (by kernel_rfl)) (kw [0,5,6] [1005] [(0,.str a0),(5,.row 1005),(6,vi 1)] [(1005,50,[rc5 []])] (Wp.lD (xt n n a0 ([]:List (av)) 1 o1 ho1 ?_))))
  rcases o1 with o1|o1
  ·replace h:=jy h
   refine To.jH (To.ai (Wp.seq (rg [2,3,4] [1005] [(2,.row 1005),(3,vi 0),(4,vi 0)] [(1005,50,[rc5 o1])] (To.ai (Wp.ret (nt [2,3,4] [1005] [(1005,1002)] [2,3,4] [1002] [(2,.row 1002),(3,vi 0),(4,vi 0)] [(1002,50,[rc5 o1])] (To.pre (St.rename 1002 1 (by decide) (K':=[(2,.row 1),(3,vi 0),(4,vi 0)]) (L':=[(1,50,[rc5 o1])]) (by kernel_rfl) (by kernel_rfl) (by kernel_rfl)) ?_)))))))
   cases h
   exact To.ff hΓ [1] (by kernel_rfl) (by kernel_rfl)
  ·replace h:=ju h
   refine To.aX (To.aO (kt [2,3,4] [] [(2,.val (.slice none 0 0)),(3,vi o1.1),(4,vi o1.2)] [] (To.pre (St.Bm (t:=2) (k:=1002) (e:=50) (K':=[(2,.row 1002),(3,vi o1.1),(4,vi o1.2)]) (jW _) (by decide) (by kernel_rfl) (by kernel_rfl)) (kt [2,3,4] [1002] [(2,.row 1002),(3,vi o1.1),(4,vi o1.2)] [(1002,50,[rc5 []])] (To.pre (St.rename 1002 1 (by decide) (K':=[(2,.row 1),(3,vi o1.1),(4,vi o1.2)]) (L':=[(1,50,[rc5 []])]) (by kernel_rfl) (by kernel_rfl) (by kernel_rfl)) ?_)))))
   cases h
   exact To.ff hΓ [1] (by kernel_rfl) (by kernel_rfl)
def ie(v1:Int)(v2:Int)(v11:Bool)(b6:af)(b1000000:ak):ak :=
 if v11=true then((ak.mk b1000000.f_l b1000000.aC v1 v2))
 else b1000000
abbrev zx7:af:=af.mk 0 [] [] []
abbrev tn8(l:List (af)):D:=.tree (α:=af) zx7 bZ bM l
abbrev qc9(x:af):List D:=[vi x.aF,.str x.au,ls x.aA,tn8 x.aj]
abbrev aL(k0:Nat)(x:ak):List D:=[.row k0,vi x.aC,vi x.mF,vi x.f_e]
abbrev fh(x0:ak):Nat×Nat×List D:=(504000,50,[rc5 x0.f_l])
abbrev iw(x0:ak):Nat×Nat×List D:=(1000000,46,aL 504000 x0)
theorem pd(v1:Int)(v2:Int)(v11:Bool)(b6:af)(b1000000:ak)(o:ak)(h:ie v1 v2 v11 b6 b1000000=o)(hQ:To 21 F0 w0 [(6,.own 6 0)] [(6,26,qc9 b6),(504000,50,[rc5 o.f_l]),(1000000,46,aL 504000 o)] .normal Q):Wp Tryz.prog 21 F0 w0 [(0,.own 1000000 0),(1,vi v1),(2,vi v2),(6,.own 6 0),(11,vb v11)] [(6,26,qc9 b6),(fh b1000000),(iw b1000000)] (cB (cA (cB (cF Tryz.f25)))) Q:=by
 unfold ie at h
 refine cn h (fun h=>?_) (fun h=>?_)
 ·refine rg [6] [6,504000,1000000] [(6,.own 6 0)] [(6,26,qc9 b6),(fh b1000000),(1000000,46,[.row 504000,vi b1000000.aC,vi v1,vi v2])] (kt [6] [6,504000,1000000] [(6,.own 6 0)] [(6,26,qc9 b6),(fh b1000000),(1000000,46,[.row 504000,vi b1000000.aC,vi v1,vi v2])] ?_)
  cases h
  exact hQ
 ·refine Wp.skip (kt [6] [6,504000,1000000] [(6,.own 6 0)] [(6,26,qc9 b6),(fh b1000000),(iw b1000000)] ?_)
  cases h
  exact hQ
def cZ(a1:Int)(a2:Int)(h0:ak):af×ak :=
 aP (ie a1 a2 (h0.f_e==0) (af.mk 0 [] [] []) h0) fun o1 =>
 ((af.mk 0 [] [] []),o1)
theorem ft(a1:Int)(a2:Int)(h0:ak)(r:af×ak)(h:cZ a1 a2 h0=r):aY Tryz.prog 25 [.own 1000000 0,vi a1,vi a2] [(1000000,46,aL 1010000 h0),(1010000,50,[rc5 h0.f_l])] (.agg (qc9 r.1)) [(200,50,[rc5 r.2.f_l]),(1000000,46,aL 200 r.2)]:=by
 unfold cZ at h
 refine bo Tryz.f25 rfl fun F0 w0=>?_
 refine nw [0,1,2] [1000000,1010000] [(1010000,504000)] [0,1,2] [504000,1000000] [(0,.own 1000000 0),(1,vi a1),(2,vi a2)] [(504000,50,[rc5 h0.f_l]),(1000000,46,aL 504000 h0)] (Wp.seq (rg [0,1,2,6] [6,504000,1000000] [(0,.own 1000000 0),(1,vi a1),(2,vi a2),(6,.own 6 0)] [(6,26,[vi 0,.str [],.val (.slice none 0 0),.val (.slice none 0 0)]),(504000,50,[rc5 h0.f_l]),(1000000,46,aL 504000 h0)] (To.ai (Wp.seq (Wp.seq (rg [0,1,2,6,11] [6,504000,1000000] [(0,.own 1000000 0),(1,vi a1),(2,vi a2),(6,.own 6 0),(11,vb (h0.f_e==0))] [(6,26,[vi 0,.str [],.val (.slice none 0 0),.val (.slice none 0 0)]),(504000,50,[rc5 h0.f_l]),(1000000,46,aL 504000 h0)] (To.ai ?_)))))))
 obtain⟨o1,ho1,h⟩:=bV h
 refine kw [0,1,2,6,11] [6,504000,1000000] [(0,.own 1000000 0),(1,vi a1),(2,vi a2),(6,.own 6 0),(11,vb (h0.f_e==0))] [(6,26,[vi 0,.str [],.val (.slice none 0 0),.val (.slice none 0 0)]),(504000,50,[rc5 h0.f_l]),(1000000,46,aL 504000 h0)] (Wp.weak (K':=[(0,.own 1000000 0),(1,vi a1),(2,vi a2),(6,.own 6 0),(11,vb (h0.f_e==0))]) (L':=[(6,26,[vi 0,.str [],ls [],tn8 []]),(504000,50,[rc5 h0.f_l]),(1000000,46,aL 504000 h0)]) (.cons (.refl _) (.cons (.refl _) (.cons (.refl _) (.cons (.refl _) (.cons (.refl _) .nil))))) (.cons (.cons (.refl _) (.cons (.refl _) (.cons (.zero _ _) (.cons (.ig _ _ _) .nil)))) (.cons (.cons (.refl _) .nil) (.cons (.cons (.refl _) (.cons (.refl _) (.cons (.refl _) (.cons (.refl _) .nil)))) .nil))) (pd a1 a2 (h0.f_e==0) zx7 h0 o1 ho1 (To.ai (Wp.seq (rg [6] [6,504000,1000000] [(6,.own 6 0)] [(6,26,[vi 0,.str [],.val (.slice none 0 0),.val (.slice none 0 0)]),(504000,50,[rc5 o1.f_l]),(1000000,46,aL 504000 o1)] (To.ai (Wp.ret (To.weak (K':=[(6,.own 6 0)]) (L':=[(6,26,[vi 0,.str [],ls [],tn8 []]),(504000,50,[rc5 o1.f_l]),(1000000,46,aL 504000 o1)]) (.cons (.refl _) .nil) (.cons (.cons (.refl _) (.cons (.refl _) (.cons (.zero _ _) (.cons (.ig _ _ _) .nil)))) (.cons (.cons (.refl _) .nil) (.cons (.cons (.refl _) (.cons (.refl _) (.cons (.refl _) (.cons (.refl _) .nil)))) .nil))) (To.pre (St.rename 504000 200 (by decide) (K':=[(6,.own 6 0)]) (L':=[(6,26,[vi 0,.str [],ls [],tn8 []]),(200,50,[rc5 o1.f_l]),(1000000,46,aL 200 o1)]) (by kernel_rfl) (by kernel_rfl) (by kernel_rfl)) ?_)))))))))
 cases h
 exact To.ff hΓ [200,1000000] (by kernel_rfl) (by kernel_rfl)
def iO(n:Nat)(a1:Int)(h0:ak):Option (av×Bool×ak) :=
 if(bif (h0.f_e != 0) then true else(h0.aC==(List.length h0.f_l:Int)))=true then(some ((av.mk 0 0 []),false,h0))
 else(if(decide (0<=h0.aC/\h0.aC<(List.length h0.f_l:Int)))=true then(some (((h0.f_l)[Int.toNat h0.aC]?.getD (av.mk 0 0 [])),(decide ((((h0.f_l)[Int.toNat h0.aC]?.getD (av.mk 0 0 [])).aI)>a1)),h0)) else none)
theorem qX(n:Nat)(a1:Int)(h0:ak)(r:av×Bool×ak)(h:iO n a1 h0=some r):aY Tryz.prog 109 [.own 1000000 0,vi a1] [(1000000,46,aL 1010000 h0),(1010000,50,[rc5 h0.f_l])] (.tup [.agg (qc3 r.1),vb r.2.1]) [(200,50,[rc5 r.2.2.f_l]),(1000000,46,aL 200 r.2.2)]:=by
 unfold iO at h
 refine bo Tryz.f109 rfl fun F0 w0=>?_
 refine nw [0,1] [1000000,1010000] [(1010000,504000)] [0,1] [504000,1000000] [(0,.own 1000000 0),(1,vi a1)] [(504000,50,[rc5 h0.f_l]),(1000000,46,aL 504000 h0)] (Wp.seq (rg [0,1,4] [4,504000,1000000] [(0,.own 1000000 0),(1,vi a1),(4,.own 4 0)] [(4,50,[vi 0,vi 0,.str []]),(504000,50,[rc5 h0.f_l]),(1000000,46,aL 504000 h0)] (To.ai (Wp.seq (Wp.seq (Wp.eQ hm hΓ [] [0,1,4,22] [4,504000,1000000] (K':=[(0,.own 1000000 0),(1,vi a1),(4,.own 4 0),(22,vb (bif (h0.f_e != 0) then true else(h0.aC==(List.length h0.f_l:Int))))]) (L':=[(4,50,[vi 0,vi 0,.str []]),(504000,50,[rc5 h0.f_l]),(1000000,46,aL 504000 h0)]) (ob:=[]) (by kernel_rfl) ax.nil (To.ai (cn h (fun h=>?_) (fun h=>?_)))))))))
 ·refine Wp.seq (rg [4,5] [4,504000,1000000] [(4,.own 4 0),(5,vb false)] [(4,50,[vi 0,vi 0,.str []]),(504000,50,[rc5 h0.f_l]),(1000000,46,aL 504000 h0)] (To.ai (Wp.ret (To.aO (nt [4,5] [4,504000,1000000] [(504000,200)] [4,5] [4,200,1000000] [(4,.own 4 0),(5,vb false)] [(4,50,[vi 0,vi 0,.str []]),(200,50,[rc5 h0.f_l]),(1000000,46,aL 200 h0)] ?_)))))
  cases h
  exact To.ff hΓ [200,1000000] (by kernel_rfl) (by kernel_rfl)
 ·refine Wp.skip (To.ai (Wp.seq ?_))
  obtain⟨hc1,h⟩:=aK h
  refine Wp.eQ hm hΓ [] [4,5] [4,504000,1000000] (K':=[(4,.own 4 0),(5,vb (decide ((((h0.f_l)[Int.toNat h0.aC]?.getD zx4).aI)>a1)))]) (L':=[(4,50,[vi (((h0.f_l)[Int.toNat h0.aC]?.getD zx4).eG),vi (((h0.f_l)[Int.toNat h0.aC]?.getD zx4).aI),.str (((h0.f_l)[Int.toNat h0.aC]?.getD zx4).au)]),(504000,50,[rc5 h0.f_l]),(1000000,46,aL 504000 h0)]) (ob:=[(decide (0<=h0.aC/\h0.aC<(List.length h0.f_l:Int)))=true,(decide (0<=h0.aC/\h0.aC<(List.length h0.f_l:Int)))=true,(decide (0<=h0.aC/\h0.aC<(List.length h0.f_l:Int)))=true,(decide (0<=h0.aC/\h0.aC<(List.length h0.f_l:Int)))=true]) (by kernel_rfl) (ax.cons hc1 (ax.cons hc1 (ax.cons hc1 (ax.cons hc1 ax.nil)))) (To.ai (Wp.ret (nt [4,5] [4,504000,1000000] [(504000,200)] [4,5] [4,200,1000000] [(4,.own 4 0),(5,vb (decide ((((h0.f_l)[Int.toNat h0.aC]?.getD zx4).aI)>a1)))] [(4,50,[vi (((h0.f_l)[Int.toNat h0.aC]?.getD zx4).eG),vi (((h0.f_l)[Int.toNat h0.aC]?.getD zx4).aI),.str (((h0.f_l)[Int.toNat h0.aC]?.getD zx4).au)]),(200,50,[rc5 h0.f_l]),(1000000,46,aL 200 h0)] ?_)))
  cases h
  exact To.ff hΓ [200,1000000] (by kernel_rfl) (by kernel_rfl)
def eF(R_block_reader_block__o0_s2:ak->Option (af×ak))(n:Nat)(a1:Int)(a2:Bool)(h0:ak):Option (af×ak) :=
 (iO n a1 h0).bind fun r1 =>
 aP ((bif (!r1.2.1) then(bif (bif (bif (bif (!a2) then true else(r1.2.2.f_e != 0)) then true else(r1.2.2.aC==(List.length r1.2.2.f_l:Int))) then true else(r1.1.aI != a1)) then true else(!(fl r1.1.au))) else false):Bool) fun x2 =>
 if x2=true then(some ((af.mk 0 [] [] []),r1.2.2))
 else((R_block_reader_block__o0_s2 r1.2.2).bind fun r3 =>
 some (r3.1,r3.2))
abbrev yl(R_block_reader_block__o0_s2:ak->Option (af×ak)):Prop:=∀(h0:ak)(r:af×ak),R_block_reader_block__o0_s2 h0=some r->aY Tryz.prog 24 [.own 1000000 0] [(1000000,46,[.row 1010000,vi h0.aC,vi h0.mF,vi h0.f_e]),(1010000,50,[rc5 h0.f_l])] (.agg [vi r.1.aF,.str r.1.au,ls r.1.aA,tn8 r.1.aj]) [(200,50,[rc5 r.2.f_l]),(1000000,46,[.row 200,vi r.2.aC,vi r.2.mF,vi r.2.f_e])]
theorem kK(R_block_reader_block__o0_s2:ak->Option (af×ak))(hR_block_reader_block__o0_s2:yl R_block_reader_block__o0_s2)(n:Nat)(a1:Int)(a2:Bool)(h0:ak)(r:af×ak)(h:eF R_block_reader_block__o0_s2 n a1 a2 h0=some r):aY Tryz.prog 86 [.own 1000000 0,vi a1,vb a2] [(1000000,46,aL 1010000 h0),(1010000,50,[rc5 h0.f_l])] (.agg (qc9 r.1)) [(200,50,[rc5 r.2.f_l]),(1000000,46,aL 200 r.2)]:=by
 unfold eF at h
 refine bo Tryz.f86 rfl fun F0 w0=>?_
 refine nw [0,1,2] [1000000,1010000] [(1010000,504000)] [0,1,2] [504000,1000000] [(0,.own 1000000 0),(1,vi a1),(2,vb a2)] [(504000,50,[rc5 h0.f_l]),(1000000,46,aL 504000 h0)] (Wp.seq (rg [0,1,2,6] [6,504000,1000000] [(0,.own 1000000 0),(1,vi a1),(2,vb a2),(6,.own 6 0)] [(6,26,[vi 0,.str [],.val (.slice none 0 0),.val (.slice none 0 0)]),(504000,50,[rc5 h0.f_l]),(1000000,46,aL 504000 h0)] (To.ai (Wp.seq ?_))))
 obtain⟨r1,hr1,h⟩:=aG h
 refine rb [] 2 ⟨[(1000000,1000000),(1010000,504000)],[(200,504000),(1000000,1000000)],[.own 1000000 0,vi a1],[(1000000,46,aL 1010000 h0),(1010000,50,[rc5 h0.f_l])],.tup [.agg (qc3 r1.1),vb r1.2.1],[(200,50,[rc5 r1.2.2.f_l]),(1000000,46,aL 200 r1.2.2)]⟩ [0,1,2,6,7,8] [6,7,504000,1000000] [(0,.own 1000000 0),(1,vi a1),(2,vb a2),(6,.own 6 0),(7,.own 7 0),(8,vb r1.2.1)] [(6,26,[vi 0,.str [],.val (.slice none 0 0),.val (.slice none 0 0)]),(7,50,qc3 r1.1),(504000,50,[rc5 r1.2.2.f_l]),(1000000,46,aL 504000 r1.2.2)] ((qX n a1 h0 _ hr1)) (To.ai (Wp.seq (Wp.seq ?_)))
 obtain⟨x2,hx2,h⟩:=bV h
 refine Wp.eQ hm hΓ [(33,vb (fl r1.1.au))] [0,6,51] [6,504000,1000000] (K':=[(0,.own 1000000 0),(6,.own 6 0),(51,vb (bif (!r1.2.1) then(bif (bif (bif (bif (!a2) then true else(r1.2.2.f_e != 0)) then true else(r1.2.2.aC==(List.length r1.2.2.f_l:Int))) then true else(r1.1.aI != a1)) then true else(!(fl r1.1.au))) else false))]) (L':=[(6,26,[vi 0,.str [],.val (.slice none 0 0),.val (.slice none 0 0)]),(504000,50,[rc5 r1.2.2.f_l]),(1000000,46,aL 504000 r1.2.2)]) (ob:=[((((bif (bif (bif (!a2) then true else(r1.2.2.f_e != 0)) then true else(r1.2.2.aC==(List.length r1.2.2.f_l:Int))) then true else(r1.1.aI != a1))==false)&&((!r1.2.1)==true))=true->CX Tryz.prog 14 [.str r1.1.au] (vb (fl r1.1.au)))]) (by kernel_rfl) (ax.cons (fun _=>cx (pg r1.1.au _ rfl)) ax.nil) (To.eq (K':=[(0,.own 1000000 0),(6,.own 6 0),(51,vb x2)]) (L':=[(6,26,[vi 0,.str [],.val (.slice none 0 0),.val (.slice none 0 0)]),(504000,50,[rc5 r1.2.2.f_l]),(1000000,46,aL 504000 r1.2.2)]) (by cases hx2;rfl) (by cases hx2;rfl) (To.ai (cn h (fun h=>?_) (fun h=>?_))))
 ·refine Wp.seq (rg [6] [6,504000,1000000] [(6,.own 6 0)] [(6,26,[vi 0,.str [],.val (.slice none 0 0),.val (.slice none 0 0)]),(504000,50,[rc5 r1.2.2.f_l]),(1000000,46,aL 504000 r1.2.2)] (To.ai (Wp.ret (To.aO (To.weak (K':=[(6,.own 6 0)]) (L':=[(6,26,[vi 0,.str [],ls [],tn8 []]),(504000,50,[rc5 r1.2.2.f_l]),(1000000,46,aL 504000 r1.2.2)]) (.cons (.refl _) .nil) (.cons (.cons (.refl _) (.cons (.refl _) (.cons (.zero _ _) (.cons (.ig _ _ _) .nil)))) (.cons (.cons (.refl _) .nil) (.cons (.cons (.refl _) (.cons (.refl _) (.cons (.refl _) (.cons (.refl _) .nil)))) .nil))) (To.pre (St.rename 504000 200 (by decide) (K':=[(6,.own 6 0)]) (L':=[(6,26,[vi 0,.str [],ls [],tn8 []]),(200,50,[rc5 r1.2.2.f_l]),(1000000,46,aL 200 r1.2.2)]) (by kernel_rfl) (by kernel_rfl) (by kernel_rfl)) ?_))))))
  cases h
  exact To.ff hΓ [200,1000000] (by kernel_rfl) (by kernel_rfl)
 ·refine Wp.skip (To.ai (Wp.seq ?_))
  obtain⟨r3,hr3,h⟩:=aG h
  refine rb [] 1 ⟨[(1000000,1000000),(1010000,504000)],[(200,504000),(1000000,1000000)],[.own 1000000 0],[(1000000,46,aL 1010000 r1.2.2),(1010000,50,[rc5 r1.2.2.f_l])],.agg (qc9 r3.1),[(200,50,[rc5 r3.2.f_l]),(1000000,46,aL 200 r3.2)]⟩ [6] [6,504000,1000000] [(6,.own 6 0)] [(6,26,qc9 r3.1),(504000,50,[rc5 r3.2.f_l]),(1000000,46,aL 504000 r3.2)] ((hR_block_reader_block__o0_s2 r1.2.2 _ hr3)) (To.ai (Wp.ret (nt [6] [6,504000,1000000] [(504000,200)] [6] [6,200,1000000] [(6,.own 6 0)] [(6,26,qc9 r3.1),(200,50,[rc5 r3.2.f_l]),(1000000,46,aL 200 r3.2)] ?_)))
  cases h
  exact To.ff hΓ [200,1000000] (by kernel_rfl) (by kernel_rfl)
def cv(R_block_reader_block__o0_s2:ak->Option (af×ak))(n:Nat)(v1:Int):Nat->af->af->ak->Option (Sum (af×af×ak) (af×ak))
 |0,_,_,_=>none
 |k+1,b4,b5,b1000000=>if(bif (b1000000.f_e==0) then(decide (b1000000.aC<(List.length b1000000.f_l:Int))) else false)=true then(if(decide (0<=b1000000.aC/\b1000000.aC<(List.length b1000000.f_l:Int)))=true then(if(decide ((((b1000000.f_l)[Int.toNat b1000000.aC]?.getD (av.mk 0 0 [])).aI)>v1))=true then(aP (cZ (((b1000000.f_l)[Int.toNat b1000000.aC]?.getD (av.mk 0 0 [])).eG) 3 b1000000) fun r1 =>
 some (.inr (r1.1,r1.2)))
 else(aP (fl (((b1000000.f_l)[Int.toNat b1000000.aC]?.getD (av.mk 0 0 [])).au)) fun r2 =>
 aP ((bif (decide ((((b1000000.f_l)[Int.toNat b1000000.aC]?.getD (av.mk 0 0 [])).aI)<v1)) then true else(!r2)):Bool) fun x3 =>
 if x3=true then(some (.inl (b4,b5,b1000000)))
 else(if((((b1000000.f_l)[Int.toNat b1000000.aC]?.getD (av.mk 0 0 [])).au)==[45])=true then((eF R_block_reader_block__o0_s2 n v1 false (ak.mk b1000000.f_l (IntKind.wrap .i64 (b1000000.aC+1)) b1000000.mF b1000000.f_e)).bind fun r4 =>
 if(decide ((List.length b5.aj+List.length ([r4.1]:List (af)))*(72+1)<=limit))=true then(cv R_block_reader_block__o0_s2 n v1 k b4 (af.mk b5.aF b5.au b5.aA (b5.aj++([r4.1]:List (af)))) r4.2) else none)
 else((tf n ((b1000000.f_l)[Int.toNat b1000000.aC]?.getD (av.mk 0 0 [])) 1).bind fun r6 =>
 if(decide (0<=b1000000.aC/\b1000000.aC<(List.length b1000000.f_l:Int)))=true then((R_block_reader_block__o0_s2 (ak.mk (List.set b1000000.f_l (Int.toNat b1000000.aC) r6) b1000000.aC b1000000.mF b1000000.f_e)).bind fun r7 =>
 if(decide ((List.length b5.aj+List.length ([r7.1]:List (af)))*(72+1)<=limit))=true then(cv R_block_reader_block__o0_s2 n v1 k b4 (af.mk b5.aF b5.au b5.aA (b5.aj++([r7.1]:List (af)))) r7.2) else none) else none)))) else none)
 else(some (.inl (b4,b5,b1000000)))
abbrev aQ(l:List (af)):D:=.aN false (α:=af) zx7 dU l
abbrev dP(l:List (af)):D:=.recs (α:=af) zx7 dU l
abbrev gq(k0:Nat)(x:af):List D:=[vi x.aF,.str x.au,ls x.aA,.row k0]
abbrev nK(x0:ak):Nat×Nat×List D:=(6,50,[vi (((x0.f_l)[Int.toNat x0.aC]?.getD zx4).eG),vi (((x0.f_l)[Int.toNat x0.aC]?.getD zx4).aI),.str (((x0.f_l)[Int.toNat x0.aC]?.getD zx4).au)])
abbrev zK(x0:ak):Nat×Nat×List D:=(1000000,46,[.row 504000,vi (IntKind.wrap .i64 (x0.aC+1)),vi x0.mF,vi x0.f_e])
abbrev xk(x0:ak):=(decide (0<=x0.aC/\x0.aC<(List.length x0.f_l:Int)))
abbrev tu(x0:ak):Nat×Nat×List D:=(1000000,46,aL 1010000 x0)
abbrev uU(x0:ak):Nat×Nat×List D:=(1010000,50,[rc5 x0.f_l])
abbrev NL(x0:ak):Nat×Nat×List D:=(1000000,46,[.row 1010000,vi (IntKind.wrap .i64 (x0.aC+1)),vi x0.mF,vi x0.f_e])
abbrev QD(x0:ak):=(bif (x0.f_e==0) then(decide (x0.aC<(List.length x0.f_l:Int))) else false)
abbrev Nh(x0:ak)(x1:Int):=(decide ((((x0.f_l)[Int.toNat x0.aC]?.getD zx4).aI)>x1))
abbrev NF(x0:ak):=(ak.mk x0.f_l (IntKind.wrap .i64 (x0.aC+1)) x0.mF x0.f_e)
abbrev l5(x0:ak):=((x0.f_l)[Int.toNat x0.aC]?.getD zx4)
theorem pU(R_block_reader_block__o0_s2:ak->Option (af×ak))(hR_block_reader_block__o0_s2:yl R_block_reader_block__o0_s2)(n:Nat)(v1:Int)(k:Nat):∀(b4:af)(b5:af)(b1000000:ak)(o:Sum (af×af×ak) (af×ak)),cv R_block_reader_block__o0_s2 n v1 k b4 b5 b1000000=some o->(Sum.elim (fun s=>To 93 F0 w0 [(4,.own 4 0),(5,.own 5 0)] [(4,26,qc9 s.1),(5,26,gq 4303 s.2.1),(4303,26,[aQ s.2.1.aj]),(504000,50,[rc5 s.2.2.f_l]),(1000000,46,aL 504000 s.2.2)] (.exit 0) Q) (fun s=>To 93 F0 w0 [(4,.own 4 0)] [(4,26,qc9 s.1),(504000,50,[rc5 s.2.f_l]),(1000000,46,aL 504000 s.2)] .ret Q)) o->WL Tryz.prog 93 F0 w0 [(0,.own 1000000 0),(1,vi v1),(4,.own 4 0),(5,.own 5 0)] [(4,26,qc9 b4),(5,26,gq 4303 b5),(4303,26,[aQ b5.aj]),(fh b1000000),(iw b1000000)] (cI (cI (cA (cB (cB (cI (cB (cF Tryz.f55)))))))) Q:=by
 induction k with
 |zero=>intro b4 b5 b1000000 o h;cases h
 |succ k ih =>
  intro b4 b5 b1000000 o h hQ
  rw[cv] at h
  refine WL.round (Wp.seq (Wp.seq (Wp.eQ hm hΓ [] [0,1,4,5,24] [4,5,4303,504000,1000000] (K':=[(0,.own 1000000 0),(1,vi v1),(4,.own 4 0),(5,.own 5 0),(24,vb (QD b1000000))]) (L':=[(4,26,qc9 b4),(5,26,gq 4303 b5),(4303,26,[aQ b5.aj]),(fh b1000000),(iw b1000000)]) (ob:=[]) (by kernel_rfl) ax.nil (To.ai (cn h (fun h=>?_) (fun h=>?_))))))
  ·refine Wp.skip (To.ai (Wp.block (Wp.seq ?_)))
   obtain⟨hc10,h⟩:=aK h
   refine Wp.eQ hm hΓ [] [0,1,4,5,6] [4,5,6,4303,504000,1000000] (K':=[(0,.own 1000000 0),(1,vi v1),(4,.own 4 0),(5,.own 5 0),(6,.own 6 0)]) (L':=[(4,26,qc9 b4),(5,26,gq 4303 b5),(nK b1000000),(4303,26,[aQ b5.aj]),(fh b1000000),(iw b1000000)]) (ob:=[(xk b1000000)=true,(xk b1000000)=true]) (by kernel_rfl) (ax.cons hc10 (ax.cons hc10 ax.nil)) (To.ai (Wp.block (Wp.seq (rg [0,1,4,5,6,53] [4,5,6,4303,504000,1000000] [(0,.own 1000000 0),(1,vi v1),(4,.own 4 0),(5,.own 5 0),(6,.own 6 0),(53,vb (Nh b1000000 v1))] [(4,26,qc9 b4),(5,26,gq 4303 b5),(nK b1000000),(4303,26,[aQ b5.aj]),(fh b1000000),(iw b1000000)] (To.ai (cn h (fun h=>?_) (fun h=>?_)))))))
   ·refine Wp.seq ?_
    obtain⟨r1,hr1,h⟩:=bV h
    refine rb [] 3 ⟨[(1000000,1000000),(1010000,504000)],[(200,504000),(1000000,1000000)],[.own 1000000 0,vi ((l5 b1000000).eG),vi 3],[(tu b1000000),(uU b1000000)],.agg (qc9 r1.1),[(200,50,[rc5 r1.2.f_l]),(1000000,46,aL 200 r1.2)]⟩ [4] [4,504000,1000000] [(4,.own 4 0)] [(4,26,qc9 r1.1),(504000,50,[rc5 r1.2.f_l]),(1000000,46,aL 504000 r1.2)] ((ft ((l5 b1000000).eG) 3 b1000000 _ hr1)) (To.ai (Wp.ret (To.aX (To.aX (To.aO ?_)))))
    cases h
    exact hQ
   ·refine Wp.seq ?_
    obtain⟨r2,hr2,h⟩:=bV h
    obtain⟨x3,hx3,h⟩:=bV h
    refine rr [] [(7,vb r2)] [] [0,1,4,5,6,62] [4,5,6,4303,504000,1000000] [(0,.own 1000000 0),(1,vi v1),(4,.own 4 0),(5,.own 5 0),(6,.own 6 0),(62,vb (bif (decide (((l5 b1000000).aI)<v1)) then true else(!r2)))] [(4,26,qc9 b4),(5,26,gq 4303 b5),(nK b1000000),(4303,26,[aQ b5.aj]),(fh b1000000),(iw b1000000)] [(((decide (((l5 b1000000).aI)<v1))==false)=true->CX Tryz.prog 14 [.str ((l5 b1000000).au)] (vb r2))] (ax.cons (fun _=>cx (pg ((l5 b1000000).au) _ hr2)) ax.nil) (To.eq (K':=[(0,.own 1000000 0),(1,vi v1),(4,.own 4 0),(5,.own 5 0),(6,.own 6 0),(62,vb x3)]) (L':=[(4,26,qc9 b4),(5,26,gq 4303 b5),(nK b1000000),(4303,26,[aQ b5.aj]),(fh b1000000),(iw b1000000)]) (by cases hx3;rfl) (by cases hx3;rfl) (To.ai (cn h (fun h=>?_) (fun h=>?_))))
    ·refine Wp.exit (To.xB (by decide) (To.xB (by decide) (To.dZ (kt [4,5] [4,5,4303,504000,1000000] [(4,.own 4 0),(5,.own 5 0)] [(4,26,qc9 b4),(5,26,gq 4303 b5),(4303,26,[aQ b5.aj]),(fh b1000000),(iw b1000000)] ?_))))
     cases h
     exact hQ
    ·refine Wp.seq (rg [0,1,4,5,6,73] [4,5,6,4303,504000,1000000] [(0,.own 1000000 0),(1,vi v1),(4,.own 4 0),(5,.own 5 0),(6,.own 6 0),(73,vb (((l5 b1000000).au)==[45]))] [(4,26,qc9 b4),(5,26,gq 4303 b5),(nK b1000000),(4303,26,[aQ b5.aj]),(fh b1000000),(iw b1000000)] (To.ai (cn h (fun h=>?_) (fun h=>?_))))
     ·refine Wp.seq (rg [0,1,4,5] [4,5,4303,504000,1000000] [(0,.own 1000000 0),(1,vi v1),(4,.own 4 0),(5,.own 5 0)] [(4,26,qc9 b4),(5,26,gq 4303 b5),(4303,26,[aQ b5.aj]),(fh b1000000),(zK b1000000)] (To.ai ?_))
      obtain⟨r4,hr4,h⟩:=aG h
      obtain⟨hc5,h⟩:=aK h
      refine Wp.sG hm hΓ [] [(5,dP [r4.1]),(6,dP (b5.aj++([r4.1]:List (af))))] [(4,⟨[(1000000,1000000),(1010000,504000)],[(200,504000),(1000000,1000000)],[.own 1000000 0,vi v1,vb false],[(NL b1000000),(uU b1000000)],.agg (qc9 r4.1),[(200,50,[rc5 r4.2.f_l]),(1000000,46,aL 200 r4.2)]⟩)] [0,1,4,5,84,85,86,87,88,89,90,91] [4,5,89,90,4303,504000,1000000] [0,1,4,5] [4,5,90,504000,1000000] (K':=[(0,.own 1000000 0),(1,vi v1),(4,.own 4 0),(5,.own 5 0)]) (L':=[(4,26,qc9 b4),(5,26,gq 90 b5),(90,26,[aQ (b5.aj++([r4.1]:List (af)))]),(504000,50,[rc5 r4.2.f_l]),(1000000,46,aL 504000 r4.2)]) (ob:=[rK (aY Tryz.prog) 86 [.own 1000000 0,vi v1,vb false] [some (46,[.row 504000,vi (IntKind.wrap .i64 (b1000000.aC+1)),vi b1000000.mF,vi b1000000.f_e]),some (50,[rc5 b1000000.f_l])] ⟨[(1000000,1000000),(1010000,504000)],[(200,504000),(1000000,1000000)],[.own 1000000 0,vi v1,vb false],[(NL b1000000),(uU b1000000)],.agg (qc9 r4.1),[(200,50,[rc5 r4.2.f_l]),(1000000,46,aL 200 r4.2)]⟩,(fV 4 (qc9 r4.1) 1 (dP [r4.1])/\aV (dP [r4.1])),(decide ((List.length b5.aj+List.length ([r4.1]:List (af)))*(72+1)<=limit))=true,(i7 zx7 dU b5.aj (List.flatMap dU ([r4.1]:List (af))) (List.length ([r4.1]:List (af))) (dP (b5.aj++([r4.1]:List (af))))/\aV (dP (b5.aj++([r4.1]:List (af)))))]) (by kernel_rfl) (by kernel_rfl) (ax.cons (⟨(kK R_block_reader_block__o0_s2 hR_block_reader_block__o0_s2 n v1 false (NF b1000000) _ hr4),by kernel_rfl,by kernel_rfl⟩) (ax.cons (jY (by kernel_rfl) rfl (by kernel_rfl) (bP _)) (ax.cons hc5 (ax.cons (ja rfl rfl (bP _)) ax.nil)))) ?_
      refine To.br (To.br (nt [0,1,4,5] [4,5,90,504000,1000000] [(90,4303)] [0,1,4,5] [4,5,4303,504000,1000000] [(0,.own 1000000 0),(1,vi v1),(4,.own 4 0),(5,.own 5 0)] [(4,26,qc9 b4),(5,26,gq 4303 b5),(4303,26,[aQ (b5.aj++([r4.1]:List (af)))]),(504000,50,[rc5 r4.2.f_l]),(1000000,46,aL 504000 r4.2)] (To.again ?_)))
      exact ih b4 (af.mk b5.aF b5.au b5.aA (b5.aj++([r4.1]:List (af)))) r4.2 _ h hQ
     ·refine Wp.seq ?_
      obtain⟨r6,hr6,h⟩:=aG h
      obtain⟨hc9,h⟩:=aK h
      refine Wp.OO hm hΓ 10 [] [(9,.agg (qc3 r6)),(11,rs6 (List.set b1000000.f_l (Int.toNat b1000000.aC) r6))] [] [0,1,4,5] [4,5,4303,504000,1000000] (K':=[(0,.own 1000000 0),(1,vi v1),(4,.own 4 0),(5,.own 5 0)]) (L':=[(4,26,qc9 b4),(5,26,gq 4303 b5),(4303,26,[aQ b5.aj]),(504000,50,[rc5 (List.set b1000000.f_l (Int.toNat b1000000.aC) r6)]),(iw b1000000)]) (ob:=[(true=true->CX Tryz.prog 87 [.agg [vi ((l5 b1000000).eG),vi ((l5 b1000000).aI),.str ((l5 b1000000).au)],vi 1] (.agg (qc3 r6))),(xk b1000000)=true,(xk b1000000)=true,Ep zx4 lS b1000000.f_l b1000000.aC 0 (qc3 r6) (rs6 (List.set b1000000.f_l (Int.toNat b1000000.aC) r6))]) (by kernel_rfl) (ax.cons (fun _=>cx (GL n (l5 b1000000) 1 _ hr6)) (ax.cons hc9 (ax.cons hc9 (ax.cons (Rw (by kernel_rfl)) ax.nil)))) (To.ai ?_)
      obtain⟨r7,hr7,h⟩:=aG h
      obtain⟨hc8,h⟩:=aK h
      refine Wp.sG hm hΓ [] [(4,dP [r7.1]),(5,dP (b5.aj++([r7.1]:List (af))))] [(3,⟨[(1000000,1000000),(1010000,504000)],[(200,504000),(1000000,1000000)],[.own 1000000 0],[(tu b1000000),(1010000,50,[rc5 (List.set b1000000.f_l (Int.toNat b1000000.aC) r6)])],.agg (qc9 r7.1),[(200,50,[rc5 r7.2.f_l]),(1000000,46,aL 200 r7.2)]⟩)] [0,1,4,5,46,47,48,49,50,51,52] [4,5,50,51,4303,504000,1000000] [0,1,4,5] [4,5,51,504000,1000000] (K':=[(0,.own 1000000 0),(1,vi v1),(4,.own 4 0),(5,.own 5 0)]) (L':=[(4,26,qc9 b4),(5,26,gq 51 b5),(51,26,[aQ (b5.aj++([r7.1]:List (af)))]),(504000,50,[rc5 r7.2.f_l]),(1000000,46,aL 504000 r7.2)]) (ob:=[rK (aY Tryz.prog) 24 [.own 1000000 0] [some (46,aL 504000 b1000000),some (50,[rc5 (List.set b1000000.f_l (Int.toNat b1000000.aC) r6)])] ⟨[(1000000,1000000),(1010000,504000)],[(200,504000),(1000000,1000000)],[.own 1000000 0],[(tu b1000000),(1010000,50,[rc5 (List.set b1000000.f_l (Int.toNat b1000000.aC) r6)])],.agg (qc9 r7.1),[(200,50,[rc5 r7.2.f_l]),(1000000,46,aL 200 r7.2)]⟩,(fV 4 (qc9 r7.1) 1 (dP [r7.1])/\aV (dP [r7.1])),(decide ((List.length b5.aj+List.length ([r7.1]:List (af)))*(72+1)<=limit))=true,(i7 zx7 dU b5.aj (List.flatMap dU ([r7.1]:List (af))) (List.length ([r7.1]:List (af))) (dP (b5.aj++([r7.1]:List (af))))/\aV (dP (b5.aj++([r7.1]:List (af)))))]) (by kernel_rfl) (by kernel_rfl) (ax.cons (⟨(hR_block_reader_block__o0_s2 (ak.mk (List.set b1000000.f_l (Int.toNat b1000000.aC) r6) b1000000.aC b1000000.mF b1000000.f_e) _ hr7),by kernel_rfl,by kernel_rfl⟩) (ax.cons (jY (by kernel_rfl) rfl (by kernel_rfl) (bP _)) (ax.cons hc8 (ax.cons (ja rfl rfl (bP _)) ax.nil)))) ?_
      refine To.br (To.br (nt [0,1,4,5] [4,5,51,504000,1000000] [(51,4303)] [0,1,4,5] [4,5,4303,504000,1000000] [(0,.own 1000000 0),(1,vi v1),(4,.own 4 0),(5,.own 5 0)] [(4,26,qc9 b4),(5,26,gq 4303 b5),(4303,26,[aQ (b5.aj++([r7.1]:List (af)))]),(504000,50,[rc5 r7.2.f_l]),(1000000,46,aL 504000 r7.2)] (To.again ?_)))
      exact ih b4 (af.mk b5.aF b5.au b5.aA (b5.aj++([r7.1]:List (af)))) r7.2 _ h hQ
  ·refine Wp.exit (To.dZ (To.dZ (kt [4,5] [4,5,4303,504000,1000000] [(4,.own 4 0),(5,.own 5 0)] [(4,26,qc9 b4),(5,26,gq 4303 b5),(4303,26,[aQ b5.aj]),(fh b1000000),(iw b1000000)] ?_)))
   cases h
   exact hQ
def iV(R_block_reader_block__o0_s2:ak->Option (af×ak))(n:Nat)(a1:Int)(h0:ak):Option (af×ak) :=
 (cv R_block_reader_block__o0_s2 n a1 n (af.mk 0 [] [] []) (af.mk 2 [] [] []) h0).bind fun o1 =>
 (Sum.elim (fun o1=>some (o1.2.1,o1.2.2)) (fun o1=>some (o1.1,o1.2))) o1
abbrev rN(l:List (af)):D:=.aN true (α:=af) zx7 dU l
abbrev I8(x:af):List D:=[vi x.aF,.str x.au,ls x.aA,dP x.aj]
theorem rJ(R_block_reader_block__o0_s2:ak->Option (af×ak))(hR_block_reader_block__o0_s2:yl R_block_reader_block__o0_s2)(n:Nat)(a1:Int)(h0:ak)(r:af×ak)(h:iV R_block_reader_block__o0_s2 n a1 h0=some r):aY Tryz.prog 55 [.own 1000000 0,vi a1] [(1000000,46,aL 1010000 h0),(1010000,50,[rc5 h0.f_l])] (.agg (qc9 r.1)) [(200,50,[rc5 r.2.f_l]),(1000000,46,aL 200 r.2)]:=by
 unfold iV at h
 refine bo Tryz.f55 rfl fun F0 w0=>?_
 refine nw [0,1] [1000000,1010000] [(1010000,504000)] [0,1] [504000,1000000] [(0,.own 1000000 0),(1,vi a1)] [(504000,50,[rc5 h0.f_l]),(1000000,46,aL 504000 h0)] (Wp.seq (rg [0,1,4] [4,504000,1000000] [(0,.own 1000000 0),(1,vi a1),(4,.own 4 0)] [(4,26,[vi 0,.str [],.val (.slice none 0 0),.val (.slice none 0 0)]),(504000,50,[rc5 h0.f_l]),(1000000,46,aL 504000 h0)] (To.ai (Wp.scope (Wp.seq (rg [0,1,4,5] [4,5,504000,1000000] [(0,.own 1000000 0),(1,vi a1),(4,.own 4 0),(5,.own 5 0)] [(4,26,[vi 0,.str [],.val (.slice none 0 0),.val (.slice none 0 0)]),(5,26,[vi 2,.str [],.val (.slice none 0 0),.val (.slice none 0 0)]),(504000,50,[rc5 h0.f_l]),(1000000,46,aL 504000 h0)] (To.ai (Wp.seq (Wp.label (To.ai (Wp.seq (Wp.block ?_))))))))))))
 obtain⟨o1,ho1,h⟩:=aG h
 refine kw [0,1,4,5] [4,5,504000,1000000] [(0,.own 1000000 0),(1,vi a1),(4,.own 4 0),(5,.own 5 0)] [(4,26,[vi 0,.str [],.val (.slice none 0 0),.val (.slice none 0 0)]),(5,26,[vi 2,.str [],.val (.slice none 0 0),.val (.slice none 0 0)]),(504000,50,[rc5 h0.f_l]),(1000000,46,aL 504000 h0)] (Wp.pre (St.nF 5 3 4303 26 (bP _) (by decide) (by kernel_rfl) (L':=[(4,26,[vi 0,.str [],.val (.slice none 0 0),.val (.slice none 0 0)]),(5,26,[vi 2,.str [],.val (.slice none 0 0),.row 4303]),(504000,50,[rc5 h0.f_l]),(1000000,46,aL 504000 h0)]) (by kernel_rfl)) (kw [0,1,4,5] [4,5,4303,504000,1000000] [(0,.own 1000000 0),(1,vi a1),(4,.own 4 0),(5,.own 5 0)] [(4,26,[vi 0,.str [],.val (.slice none 0 0),.val (.slice none 0 0)]),(5,26,[vi 2,.str [],.val (.slice none 0 0),.row 4303]),(4303,26,[aQ []]),(504000,50,[rc5 h0.f_l]),(1000000,46,aL 504000 h0)] (Wp.weak (K':=[(0,.own 1000000 0),(1,vi a1),(4,.own 4 0),(5,.own 5 0)]) (L':=[(4,26,[vi 0,.str [],ls [],tn8 []]),(5,26,[vi 2,.str [],ls [],.row 4303]),(4303,26,[aQ []]),(504000,50,[rc5 h0.f_l]),(1000000,46,aL 504000 h0)]) (.cons (.refl _) (.cons (.refl _) (.cons (.refl _) (.cons (.refl _) .nil)))) (.cons (.cons (.refl _) (.cons (.refl _) (.cons (.zero _ _) (.cons (.ig _ _ _) .nil)))) (.cons (.cons (.refl _) (.cons (.refl _) (.cons (.zero _ _) (.cons (.refl _) .nil)))) (.cons (.cons (.refl _) .nil) (.cons (.cons (.refl _) .nil) (.cons (.cons (.refl _) (.cons (.refl _) (.cons (.refl _) (.cons (.refl _) .nil)))) .nil))))) (Wp.lD (pU R_block_reader_block__o0_s2 hR_block_reader_block__o0_s2 n a1 n zx7 (af.mk 2 [] [] []) h0 o1 ho1 ?_)))))
 rcases o1 with o1|o1
 ·replace h:=jy h
  refine To.jH (To.ai (Wp.seq (rg [4] [4,4303,504000,1000000] [(4,.own 4 0)] [(4,26,gq 4303 o1.2.1),(4303,26,[aQ o1.2.1.aj]),(504000,50,[rc5 o1.2.2.f_l]),(1000000,46,aL 504000 o1.2.2)] (To.ai (Wp.ret (To.scope (.inr (.inl rfl)) (kt [4] [4,4303,504000,1000000] [(4,.own 4 0)] [(4,26,gq 4303 o1.2.1),(4303,26,[aQ o1.2.1.aj]),(504000,50,[rc5 o1.2.2.f_l]),(1000000,46,aL 504000 o1.2.2)] (To.pre (St.settle (ks:=[4303]) (kk:=[4]) (kl:=[4,4303,504000,1000000]) (K':=[(4,.own 4 0)]) (L':=[(4,26,gq 4303 o1.2.1),(4303,26,[rN o1.2.1.aj]),(504000,50,[rc5 o1.2.2.f_l]),(1000000,46,aL 504000 o1.2.2)]) (by kernel_rfl)) (To.pre (St.Et [4] (L':=[(4,26,I8 o1.2.1),(4303,26,[rN o1.2.1.aj]),(504000,50,[rc5 o1.2.2.f_l]),(1000000,46,aL 504000 o1.2.2)]) (by kernel_rfl)) (To.weak (K':=[(4,.own 4 0)]) (L':=[(4,26,qc9 o1.2.1),(4303,26,[rN o1.2.1.aj]),(504000,50,[rc5 o1.2.2.f_l]),(1000000,46,aL 504000 o1.2.2)]) (.cons (.refl _) .nil) (.cons (.cons (.refl _) (.cons (.refl _) (.cons (.refl _) (.cons (.close _ _ _ _) .nil)))) (.cons (.cons (.refl _) .nil) (.cons (.cons (.refl _) .nil) (.cons (.cons (.refl _) (.cons (.refl _) (.cons (.refl _) (.cons (.refl _) .nil)))) .nil)))) ?_))))))))))
  refine nt [4] [4,504000,1000000] [(504000,200)] [4] [4,200,1000000] [(4,.own 4 0)] [(4,26,qc9 o1.2.1),(200,50,[rc5 o1.2.2.f_l]),(1000000,46,aL 200 o1.2.2)] ?_
  cases h
  exact To.ff hΓ [200,1000000] (by kernel_rfl) (by kernel_rfl)
 ·replace h:=ju h
  refine To.aX (To.aO (To.scope (.inr (.inl rfl)) (nt [4] [4,504000,1000000] [(504000,200)] [4] [4,200,1000000] [(4,.own 4 0)] [(4,26,qc9 o1.1),(200,50,[rc5 o1.2.f_l]),(1000000,46,aL 200 o1.2)] ?_)))
  cases h
  exact To.ff hΓ [200,1000000] (by kernel_rfl) (by kernel_rfl)
def du(n:Nat)(v0:Ls)(v1:Bs)(v7:Int):Nat->Int->Option (Sum (Unit) (Int))
 |0,_=>none
 |k+1,v8=>if(decide (v8<v7))=true then(if(decide (0<=v8/\v8<(List.length v0:Int)))=true then(if(v1==((v0)[Int.toNat v8]?.getD []))=true then(some (.inr v8))
 else(du n v0 v1 v7 k (IntKind.wrap .i64 (v8+1)))) else none)
 else(some (.inl ()))
theorem oz(n:Nat)(v0:Ls)(v1:Bs)(v7:Int)(k:Nat):∀(v8:Int)(o:Sum (Unit) (Int)),du n v0 v1 v7 k v8=some o->(Sum.elim (fun s=>To 19 F0 w0 [] [] (.exit 0) Q) (fun s=>To 19 F0 w0 [(4,vi s)] [] .ret Q)) o->WL Tryz.prog 19 F0 w0 [(0,ls v0),(1,.str v1),(7,vi v7),(8,vi v8)] [] (cI (cI (cB (cA (cB (cF Tryz.f125)))))) Q:=by
 induction k with
 |zero=>intro v8 o h;cases h
 |succ k ih =>
  intro v8 o h hQ
  rw[du] at h
  refine WL.round (Wp.seq (rg [0,1,7,8,9] [] [(0,ls v0),(1,.str v1),(7,vi v7),(8,vi v8),(9,vb (decide (v8<v7)))] [] (To.ai (Wp.seq (cn h (fun h=>?_) (fun h=>?_))))))
  ·refine Wp.skip (To.ai (Wp.seq (Wp.block (Wp.seq (rg [0,1,5,7,8] [] [(0,ls v0),(1,.str v1),(5,vi v8),(7,vi v7),(8,vi v8)] [] (To.ai (Wp.seq ?_)))))))
   obtain⟨hc1,h⟩:=aK h
   refine r0 [0,1,5,7,8,16] [] [(0,ls v0),(1,.str v1),(5,vi v8),(7,vi v7),(8,vi v8),(16,vb (v1==((v0)[Int.toNat v8]?.getD [])))] [] (ax.cons hc1 ax.nil) (To.ai (cn h (fun h=>?_) (fun h=>?_)))
   ·refine Wp.seq (rg [4] [] [(4,vi v8)] [] (To.ai (Wp.ret (To.aX (To.aO (To.aO ?_))))))
    cases h
    exact hQ
   ·refine Wp.skip (To.br (To.ai (rg [0,1,7,8] [] [(0,ls v0),(1,.str v1),(7,vi v7),(8,vi (IntKind.wrap .i64 (v8+1)))] [] (kt [0,1,7,8] [] [(0,ls v0),(1,.str v1),(7,vi v7),(8,vi (IntKind.wrap .i64 (v8+1)))] [] (To.again ?_)))))
    exact ih (IntKind.wrap .i64 (v8+1)) _ h hQ
  ·refine Wp.exit (To.dZ (To.dZ (kt [] [] [] [] ?_)))
   cases h
   exact hQ
def iD(n:Nat)(a0:Ls)(a1:Bs):Option (Int) :=
 (du n a0 a1 (List.length a0:Int) n 0).bind fun o1 =>
 (Sum.elim (fun o1=>some (-1)) (fun o1=>some o1)) o1
theorem pT(n:Nat)(a0:Ls)(a1:Bs)(r:Int)(h:iD n a0 a1=some r):bC Tryz.prog 125 [ls a0,.str a1] (vi r):=by
 unfold iD at h
 refine xo Tryz.f125 rfl fun F0 w0 _=>?_
 refine Wp.seq (rg [0,1] [] [(0,ls a0),(1,.str a1)] [] (To.ai (Wp.seq (Wp.seq (rg [0,1,7,8] [] [(0,ls a0),(1,.str a1),(7,vi (List.length a0:Int)),(8,vi 0)] [] (To.ai (Wp.block ?_)))))))
 obtain⟨o1,ho1,h⟩:=aG h
 refine kw [0,1,7,8] [] [(0,ls a0),(1,.str a1),(7,vi (List.length a0:Int)),(8,vi 0)] [] (Wp.lD (oz n a0 a1 (List.length a0:Int) n 0 o1 ho1 ?_))
 rcases o1 with o1|o1
 ·replace h:=jy h
  refine To.jH (To.ai (Wp.seq (rg [4] [] [(4,vi (-1))] [] (To.ai (Wp.ret ?_)))))
  cases h
  exact To.done hΓ (by kernel_rfl)
 ·replace h:=ju h
  refine To.aX (To.aO ?_)
  cases h
  exact To.done hΓ (by kernel_rfl)
def fZ(n:Nat)(a0:Ls)(a1:Bs):Option (Bool) :=
 (iD n a0 a1).bind fun r1 =>
 some (decide (r1>=0))
theorem oh(n:Nat)(a0:Ls)(a1:Bs)(r:Bool)(h:fZ n a0 a1=some r):bC Tryz.prog 110 [ls a0,.str a1] (vb r):=by
 unfold fZ at h
 refine xo Tryz.f110 rfl fun F0 w0 _=>?_
 refine Wp.seq (rg [0,1] [] [(0,ls a0),(1,.str a1)] [] (To.ai (Wp.seq ?_)))
 obtain⟨r1,hr1,h⟩:=aG h
 refine rc [] 2 [4] [] [(4,vb (decide (r1>=0)))] [] (pT n a0 a1 _ hr1) (To.ai (Wp.ret ?_))
 cases h
 exact To.done hΓ (by kernel_rfl)
def oO(n:Nat)(a0:Ls)(a1:Bs):Option (Bool) :=
 (fZ n a0 a1).bind fun r1 =>
 some r1
theorem Kv(n:Nat)(a0:Ls)(a1:Bs)(r:Bool)(h:oO n a0 a1=some r):bC Tryz.prog 88 [ls a0,.str a1] (vb r):=by
 unfold oO at h
 refine xo Tryz.f88 rfl fun F0 w0 _=>?_
 refine Wp.seq (rg [0,1] [] [(0,ls a0),(1,.str a1)] [] (To.ai (Wp.seq ?_)))
 obtain⟨r1,hr1,h⟩:=aG h
 refine rc [] 2 [4] [] [(4,vb r1)] [] (oh n a0 a1 _ hr1) (To.ai (Wp.ret ?_))
 cases h
 exact To.done hΓ (by kernel_rfl)
def ru(a0:Bs):af :=
 (af.mk 1 a0 [] [])
theorem tq(a0:Bs)(r:af)(h:ru a0=r):bC Tryz.prog 111 [.str a0] (.agg (qc9 r)):=by
 unfold ru at h
 refine xo Tryz.f111 rfl fun F0 w0 _=>?_
 refine Wp.seq (rg [0,2] [2] [(0,.str a0),(2,.own 2 0)] [(2,26,[vi 0,.str [],.val (.slice none 0 0),.val (.slice none 0 0)])] (To.ai (Wp.seq (rg [2] [2] [(2,.own 2 0)] [(2,26,[vi 1,.str a0,.val (.slice none 0 0),.val (.slice none 0 0)])] (To.ai (Wp.ret (To.weak (K':=[(2,.own 2 0)]) (L':=[(2,26,[vi 1,.str a0,ls [],tn8 []])]) (.cons (.refl _) .nil) (.cons (.cons (.refl _) (.cons (.refl _) (.cons (.zero _ _) (.cons (.ig _ _ _) .nil)))) .nil) ?_)))))))
 cases h
 exact To.done hΓ (by kernel_rfl)
def kM(n:Nat)(v0:Bs)(v5:Int):Nat->Int->Option (Sum (Unit) (Bool))
 |0,_=>none
 |k+1,v6=>if(decide (v6<v5))=true then(if(decide (0<=v6/\v6<(List.length v0:Int)))=true then(aP ((decide ((Lib.indexByte ([44,91,93,123,125]:Bs) (Int.toNat (((v0)[Int.toNat v6]?.getD 0).toNat:Int)).toUInt8)>=0)):Bool) fun x1 =>
 if x1=true then(some (.inr false))
 else(kM n v0 v5 k (IntKind.wrap .i64 (v6+1)))) else none)
 else(some (.inl ()))
abbrev NY(x0:Bs)(x1:Int):=(Lib.indexByte ([44,91,93,123,125]:Bs) (Int.toNat (ex1 x0 x1)).toUInt8)
theorem Ap(n:Nat)(v0:Bs)(v5:Int)(k:Nat):∀(v6:Int)(o:Sum (Unit) (Bool)),kM n v0 v5 k v6=some o->(Sum.elim (fun s=>To 17 F0 w0 [(0,.str v0)] [] (.exit 0) Q) (fun s=>To 17 F0 w0 [(2,vb s)] [] .ret Q)) o->WL Tryz.prog 17 F0 w0 [(0,.str v0),(5,vi v5),(6,vi v6)] [] (cI (cI (cB (cA (cB (cF Tryz.f83)))))) Q:=by
 induction k with
 |zero=>intro v6 o h;cases h
 |succ k ih =>
  intro v6 o h hQ
  rw[kM] at h
  refine WL.round (Wp.seq (rg [0,5,6,7] [] [(0,.str v0),(5,vi v5),(6,vi v6),(7,vb (decide (v6<v5)))] [] (To.ai (Wp.seq (cn h (fun h=>?_) (fun h=>?_))))))
  ·refine Wp.skip (To.ai (Wp.seq (Wp.block (Wp.seq (rg [0,3,5,6] [] [(0,.str v0),(3,vi v6),(5,vi v5),(6,vi v6)] [] (To.ai (Wp.seq ?_)))))))
   obtain⟨hc2,h⟩:=aK h
   obtain⟨x1,hx1,h⟩:=bV h
   refine rr [] [(3,vi (NY v0 v6))] [] [0,5,6,13] [] [(0,.str v0),(5,vi v5),(6,vi v6),(13,vb (decide ((NY v0 v6)>=0)))] [] [_,(true=true->CX Tryz.prog 66 [.str [44,91,93,123,125],.val (.int .u8 (ex1 v0 v6))] (vi (NY v0 v6)))] (ax.cons hc2 (ax.cons (fun _=>cx (Sh.lN)) ax.nil)) (To.eq (K':=[(0,.str v0),(5,vi v5),(6,vi v6),(13,vb x1)]) (L':=[]) (by cases hx1;rfl) (by cases hx1;rfl) (To.ai (cn h (fun h=>?_) (fun h=>?_))))
   ·refine Wp.seq (rg [2] [] [(2,vb false)] [] (To.ai (Wp.ret (To.aX (To.aO (To.aO ?_))))))
    cases h
    exact hQ
   ·refine Wp.skip (To.br (To.ai (rg [0,5,6] [] [(0,.str v0),(5,vi v5),(6,vi (IntKind.wrap .i64 (v6+1)))] [] (kt [0,5,6] [] [(0,.str v0),(5,vi v5),(6,vi (IntKind.wrap .i64 (v6+1)))] [] (To.again ?_)))))
    exact ih (IntKind.wrap .i64 (v6+1)) _ h hQ
  ·refine Wp.exit (To.dZ (To.dZ (kt [0] [] [(0,.str v0)] [] ?_)))
   cases h
   exact hQ
def lg(n:Nat)(a0:Bs):Option (Bool) :=
 (kM n a0 (List.length a0:Int) n 0).bind fun o1 =>
 (Sum.elim (fun o1=>(iz n a0).bind fun r2 =>
 some r2) (fun o1=>some o1)) o1
theorem tK(n:Nat)(a0:Bs)(r:Bool)(h:lg n a0=some r):bC Tryz.prog 83 [.str a0] (vb r):=by
 unfold lg at h
 refine xo Tryz.f83 rfl fun F0 w0 _=>?_
 refine Wp.seq (rg [0] [] [(0,.str a0)] [] (To.ai (Wp.seq (Wp.seq (rg [0,5,6] [] [(0,.str a0),(5,vi (List.length a0:Int)),(6,vi 0)] [] (To.ai (Wp.block ?_)))))))
 obtain⟨o1,ho1,h⟩:=aG h
 refine kw [0,5,6] [] [(0,.str a0),(5,vi (List.length a0:Int)),(6,vi 0)] [] (Wp.lD (Ap n a0 (List.length a0:Int) n 0 o1 ho1 ?_))
 rcases o1 with o1|o1
 ·replace h:=jy h
  refine To.jH (To.ai (Wp.seq ?_))
  obtain⟨r2,hr2,h⟩:=aG h
  refine rc [] 1 [2] [] [(2,vb r2)] [] (np n a0 _ hr2) (To.ai (Wp.ret ?_))
  cases h
  exact To.done hΓ (by kernel_rfl)
 ·replace h:=ju h
  refine To.aX (To.aO ?_)
  cases h
  exact To.done hΓ (by kernel_rfl)
def dK(n:Nat)(a0:Bs)(a1:Bool):Option (af×Int) :=
 if(bif (bif (a0==[]) then true else(a0==[126])) then true else(a0==rG))=true then(some ((af.mk 0 [] [] []),0))
 else(if(decide (0<=(0:Int)/\(0:Int)<(List.length a0:Int)))=true then(if((!(((((a0)[Int.toNat 0]?.getD 0).toNat:Int)==34)==false)||decide (0<=(0:Int)/\(0:Int)<(List.length a0:Int))))=true then(if(bif ((((a0)[Int.toNat 0]?.getD 0).toNat:Int)==34) then true else((((a0)[Int.toNat 0]?.getD 0).toNat:Int)==39))=true then((bp n a0 0).bind fun r1 =>
 if(bif (r1.2.2 != 0) then true else(r1.2.1 != (List.length a0:Int)))=true then(some ((af.mk 0 [] [] []),3))
 else(aP (ru r1.1) fun r2 =>
 some (r2,0)))
 else(((if(a1==true)=true then lg n a0 else some false)).bind fun r3 =>
 ((if(((!a1)==true)&&((bif a1 then r3 else false)==false))=true then iz n a0 else some false)).bind fun r4 =>
 if(bif (bif a1 then r3 else false) then true else(bif (!a1) then r4 else false))=true then(aP (ru a0) fun r5 =>
 some (r5,0))
 else(some ((af.mk 0 [] [] []),3)))) else none) else none)
theorem vg(n:Nat)(a0:Bs)(a1:Bool)(r:af×Int)(h:dK n a0 a1=some r):bC Tryz.prog 89 [.str a0,vb a1] (.tup [.agg (qc9 r.1),vi r.2]):=by
 unfold dK at h
 refine xo Tryz.f89 rfl fun F0 w0 _=>?_
 refine Wp.seq (rg [0,1,4] [4] [(0,.str a0),(1,vb a1),(4,.own 4 0)] [(4,26,[vi 0,.str [],.val (.slice none 0 0),.val (.slice none 0 0)])] (To.ai (Wp.seq (Wp.block (Wp.seq (rg [0,1,4,9] [4] [(0,.str a0),(1,vb a1),(4,.own 4 0),(9,vb (Qe a0))] [(4,26,[vi 0,.str [],.val (.slice none 0 0),.val (.slice none 0 0)])] (To.ai (cn h (fun h=>?_) (fun h=>?_)))))))))
 ·refine Wp.seq (rg [4,5] [4] [(4,.own 4 0),(5,vi 0)] [(4,26,[vi 0,.str [],.val (.slice none 0 0),.val (.slice none 0 0)])] (To.ai (Wp.ret (To.aX (To.aO (To.weak (K':=[(4,.own 4 0),(5,vi 0)]) (L':=[(4,26,[vi 0,.str [],ls [],tn8 []])]) (.cons (.refl _) (.cons (.refl _) .nil)) (.cons (.cons (.refl _) (.cons (.refl _) (.cons (.zero _ _) (.cons (.ig _ _ _) .nil)))) .nil) ?_))))))
  cases h
  exact To.done hΓ (by kernel_rfl)
 ·refine Wp.seq ?_
  obtain⟨hc6,h⟩:=aK h
  obtain⟨hc7,h⟩:=aK h
  refine r0 [0,1,4,21] [4] [(0,.str a0),(1,vb a1),(4,.own 4 0),(21,vb (IG a0))] [(4,26,[vi 0,.str [],.val (.slice none 0 0),.val (.slice none 0 0)])] (ax.cons hc6 (ax.cons hc7 ax.nil)) (To.ai (cn h (fun h=>?_) (fun h=>?_)))
  ·refine Wp.seq ?_
   obtain⟨r1,hr1,h⟩:=aG h
   refine rc [] 1 [0,4,6,7,8] [4] [(0,.str a0),(4,.own 4 0),(6,.str r1.1),(7,vi r1.2.1),(8,vi r1.2.2)] [(4,26,[vi 0,.str [],.val (.slice none 0 0),.val (.slice none 0 0)])] (lK n a0 0 _ hr1) (To.ai (Wp.seq (Wp.seq (rg [4,6,43] [4] [(4,.own 4 0),(6,.str r1.1),(43,vb (bif (r1.2.2 != 0) then true else(r1.2.1 != (List.length a0:Int))))] [(4,26,[vi 0,.str [],.val (.slice none 0 0),.val (.slice none 0 0)])] (To.ai (cn h (fun h=>?_) (fun h=>?_)))))))
   ·refine Wp.seq (rg [4,5] [4] [(4,.own 4 0),(5,vi 3)] [(4,26,[vi 0,.str [],.val (.slice none 0 0),.val (.slice none 0 0)])] (To.ai (Wp.ret (To.aO (To.aX (To.aO (To.weak (K':=[(4,.own 4 0),(5,vi 3)]) (L':=[(4,26,[vi 0,.str [],ls [],tn8 []])]) (.cons (.refl _) (.cons (.refl _) .nil)) (.cons (.cons (.refl _) (.cons (.refl _) (.cons (.zero _ _) (.cons (.ig _ _ _) .nil)))) .nil) ?_)))))))
    cases h
    exact To.done hΓ (by kernel_rfl)
   ·refine Wp.skip (To.ai (Wp.seq ?_))
    obtain⟨r2,hr2,h⟩:=bV h
    refine rc [] 1 [4,5] [4] [(4,.own 4 0),(5,vi 0)] [(4,26,qc9 r2)] (tq r1.1 _ hr2) (To.ai (Wp.ret (To.aX (To.aO ?_))))
    cases h
    exact To.done hΓ (by kernel_rfl)
  ·refine Wp.seq ?_
   obtain⟨r3,hr3,h⟩:=aG h
   obtain⟨r4,hr4,h⟩:=aG h
   refine rr [] [(3,vb r3),(10,vb r4)] [] [0,4,47] [4] [(0,.str a0),(4,.own 4 0),(47,vb (bif (bif a1 then r3 else false) then true else(bif (!a1) then r4 else false)))] [(4,26,[vi 0,.str [],.val (.slice none 0 0),.val (.slice none 0 0)])] [((a1==true)=true->CX Tryz.prog 83 [.str a0] (vb r3)),((((!a1)==true)&&((bif a1 then r3 else false)==false))=true->CX Tryz.prog 33 [.str a0] (vb r4))] (ax.cons (fun hg=>cx (tK n a0 _ (jC hg hr3))) (ax.cons (fun hg=>cx (np n a0 _ (jC hg hr4))) ax.nil)) (To.ai (cn h (fun h=>?_) (fun h=>?_)))
   ·refine Wp.seq ?_
    obtain⟨r5,hr5,h⟩:=bV h
    refine rc [] 1 [4,5] [4] [(4,.own 4 0),(5,vi 0)] [(4,26,qc9 r5)] (tq a0 _ hr5) (To.ai (Wp.ret (To.aX (To.aO ?_))))
    cases h
    exact To.done hΓ (by kernel_rfl)
   ·refine Wp.skip (To.br (To.ai (Wp.seq (rg [4,5] [4] [(4,.own 4 0),(5,vi 3)] [(4,26,[vi 0,.str [],.val (.slice none 0 0),.val (.slice none 0 0)])] (To.ai (Wp.ret (To.weak (K':=[(4,.own 4 0),(5,vi 3)]) (L':=[(4,26,[vi 0,.str [],ls [],tn8 []])]) (.cons (.refl _) (.cons (.refl _) .nil)) (.cons (.cons (.refl _) (.cons (.refl _) (.cons (.zero _ _) (.cons (.ig _ _ _) .nil)))) .nil) ?_)))))))
    cases h
    exact To.done hΓ (by kernel_rfl)
structure ah where
 f_s:Bs
 aC:Int
 bI:Bool
def fu(n:Nat):Nat->ah->Option (ah)
 |0,_=>none
 |k+1,b1000000=>if((!((decide (b1000000.aC<(List.length b1000000.f_s:Int)))==true)||decide (0<=b1000000.aC/\b1000000.aC<(List.length b1000000.f_s:Int))))=true then(aP ((bif (decide (b1000000.aC<(List.length b1000000.f_s:Int))) then((((b1000000.f_s)[Int.toNat b1000000.aC]?.getD 0).toNat:Int)==32) else false):Bool) fun x1 =>
 if x1=true then(fu n k (ah.mk b1000000.f_s (IntKind.wrap .i64 (b1000000.aC+1)) b1000000.bI))
 else some b1000000) else none
abbrev aH(x:ah):List D:=[.str x.f_s,vi x.aC,vb x.bI]
abbrev zI(x0:ah):Nat×Nat×List D:=(1000000,137,[.str x0.f_s,vi (IntKind.wrap .i64 (x0.aC+1)),vb x0.bI])
abbrev Ss(x0:ah):=(((x0.f_s)[Int.toNat x0.aC]?.getD 0).toNat:Int)
abbrev Ks(x0:ah):=(ah.mk x0.f_s (IntKind.wrap .i64 (x0.aC+1)) x0.bI)
abbrev vZ(x0:ah):=(List.length x0.f_s:Int)
theorem rL(n:Nat)(k:Nat):∀(b1000000:ah)(o:ah),fu n k b1000000=some o->To 51 F0 w0 [(0,.own 1000000 0)] [(1000000,137,aH o)] (.exit 0) Q->WL Tryz.prog 51 F0 w0 [(0,.own 1000000 0)] [(1000000,137,aH b1000000)] (cI (cI (cA (cB (cF Tryz.f113))))) Q:=by
 induction k with
 |zero=>intro b1000000 o h;cases h
 |succ k ih =>
  intro b1000000 o h hQ
  rw[fu] at h
  refine WL.round (Wp.seq (Wp.seq ?_))
  obtain⟨hc2,h⟩:=aK h
  obtain⟨x1,hx1,h⟩:=bV h
  refine Wp.eQ hm hΓ [] [0,24] [1000000] (K':=[(0,.own 1000000 0),(24,vb (bif (decide (b1000000.aC<(vZ b1000000))) then((Ss b1000000)==32) else false))]) (L':=[(1000000,137,aH b1000000)]) (ob:=[(!((decide (b1000000.aC<(vZ b1000000)))==true)||decide (0<=b1000000.aC/\b1000000.aC<(vZ b1000000)))=true]) (by kernel_rfl) (ax.cons hc2 ax.nil) (To.eq (K':=[(0,.own 1000000 0),(24,vb x1)]) (L':=[(1000000,137,aH b1000000)]) (by cases hx1;rfl) (by cases hx1;rfl) (To.ai (cn h (fun h=>?_) (fun h=>?_))))
  ·refine Wp.skip (To.ai (Wp.block (rg [0] [1000000] [(0,.own 1000000 0)] [(zI b1000000)] (To.br (To.again ?_)))))
   exact ih (Ks b1000000) _ h hQ
  ·refine Wp.exit (To.dZ (To.dZ (kt [0] [1000000] [(0,.own 1000000 0)] [(1000000,137,aH b1000000)] ?_)))
   cases h
   exact hQ
def dR(n:Nat)(h0:ah):Option (Int×ah) :=
 (fu n n h0).bind fun o1 =>
 if(o1.aC==(List.length o1.f_s:Int))=true then(some (0,o1))
 else(if(decide (0<=o1.aC/\o1.aC<(List.length o1.f_s:Int)))=true then(some ((((o1.f_s)[Int.toNat o1.aC]?.getD 0).toNat:Int),o1)) else none)
theorem jd(n:Nat)(h0:ah)(r:Int×ah)(h:dR n h0=some r):aY Tryz.prog 113 [.own 1000000 0] [(1000000,137,aH h0)] (.val (.int .u8 r.1)) [(1000000,137,aH r.2)]:=by
 unfold dR at h
 refine bo Tryz.f113 rfl fun F0 w0=>?_
 refine Wp.seq (rg [0] [1000000] [(0,.own 1000000 0)] [(1000000,137,aH h0)] (To.ai (Wp.seq (Wp.block ?_))))
 obtain⟨o1,ho1,h⟩:=aG h
 refine kw [0] [1000000] [(0,.own 1000000 0)] [(1000000,137,aH h0)] (Wp.lD (rL n n h0 o1 ho1 (To.jH (To.ai (Wp.seq (Wp.seq (Wp.eQ hm hΓ [] [0,41] [1000000] (K':=[(0,.own 1000000 0),(41,vb (o1.aC==(List.length o1.f_s:Int)))]) (L':=[(1000000,137,aH o1)]) (ob:=[]) (by kernel_rfl) ax.nil (To.ai (cn h (fun h=>?_) (fun h=>?_))))))))))
 ·refine Wp.seq (rg [2] [1000000] [(2,.val (.int .u8 0))] [(1000000,137,aH o1)] (To.ai (Wp.ret (To.aO ?_))))
  cases h
  exact To.ff hΓ [1000000] (by kernel_rfl) (by kernel_rfl)
 ·refine Wp.skip (To.ai (Wp.seq ?_))
  obtain⟨hc2,h⟩:=aK h
  refine Wp.eQ hm hΓ [] [2] [1000000] (K':=[(2,.val (.int .u8 (((o1.f_s)[Int.toNat o1.aC]?.getD 0).toNat:Int)))]) (L':=[(1000000,137,aH o1)]) (ob:=[(decide (0<=o1.aC/\o1.aC<(List.length o1.f_s:Int)))=true]) (by kernel_rfl) (ax.cons hc2 ax.nil) (To.ai (Wp.ret ?_))
  cases h
  exact To.ff hΓ [1000000] (by kernel_rfl) (by kernel_rfl)
def bn(n:Nat)(a1:Int)(h0:ah):Option (Bool×ah) :=
 (dR n h0).bind fun r1 =>
 if(r1.1 != a1)=true then(some (false,r1.2))
 else(some (true,(ah.mk r1.2.f_s (IntKind.wrap .i64 (r1.2.aC+1)) r1.2.bI)))
theorem cy(n:Nat)(a1:Int)(h0:ah)(r:Bool×ah)(h:bn n a1 h0=some r):aY Tryz.prog 137 [.own 1000000 0,.val (.int .u8 a1)] [(1000000,137,aH h0)] (vb r.1) [(1000000,137,aH r.2)]:=by
 unfold bn at h
 refine bo Tryz.f137 rfl fun F0 w0=>?_
 refine Wp.seq (rg [0,1] [1000000] [(0,.own 1000000 0),(1,.val (.int .u8 a1))] [(1000000,137,aH h0)] (To.ai (Wp.seq (Wp.seq ?_))))
 obtain⟨r1,hr1,h⟩:=aG h
 refine rb [] 1 ⟨[(1000000,1000000)],[(1000000,1000000)],[.own 1000000 0],[(1000000,137,aH h0)],.val (.int .u8 r1.1),[(1000000,137,aH r1.2)]⟩ [0,8] [1000000] [(0,.own 1000000 0),(8,vb (r1.1 != a1))] [(1000000,137,aH r1.2)] ((jd n h0 _ hr1)) (To.ai (cn h (fun h=>?_) (fun h=>?_)))
 ·refine Wp.seq (rg [4] [1000000] [(4,vb false)] [(1000000,137,aH r1.2)] (To.ai (Wp.ret (To.aO ?_))))
  cases h
  exact To.ff hΓ [1000000] (by kernel_rfl) (by kernel_rfl)
 ·refine Wp.skip (To.ai (Wp.seq (rg [] [1000000] [] [(1000000,137,[.str r1.2.f_s,vi (IntKind.wrap .i64 (r1.2.aC+1)),vb r1.2.bI])] (To.ai (Wp.seq (rg [4] [1000000] [(4,vb true)] [(1000000,137,[.str r1.2.f_s,vi (IntKind.wrap .i64 (r1.2.aC+1)),vb r1.2.bI])] (To.ai (Wp.ret ?_))))))))
  cases h
  exact To.ff hΓ [1000000] (by kernel_rfl) (by kernel_rfl)
mutual
def cu(R_flow_reader_value__o0:ah->Option (af×Bool×ah))(n:Nat):Nat->af->ah->Option (af×ah)
 |0,_,_=>none
 |k+1,b2,b1000000=>(bn n 93 (ah.mk b1000000.f_s (IntKind.wrap .i64 (b1000000.aC+1)) b1000000.bI)).bind fun r1 =>
 if r1.1=true then(some ((af.mk 2 [] [] []),r1.2))
 else((R_flow_reader_value__o0 r1.2).bind fun r2 =>
 if(bif r2.2.2.bI then true else(!r2.2.1))=true then(some ((af.mk 2 [] [] []),(ah.mk r2.2.2.f_s r2.2.2.aC (bif r2.2.2.bI then true else(!r2.2.1)))))
 else(if(decide ((List.length ([]:List (af))+List.length ([r2.1]:List (af)))*(72+1)<=limit))=true then((bn n 44 (ah.mk r2.2.2.f_s r2.2.2.aC (bif r2.2.2.bI then true else(!r2.2.1)))).bind fun r3 =>
 if r3.1=true then(dc R_flow_reader_value__o0 n k b2 (af.mk 2 [] [] (([]:List (af))++([r2.1]:List (af)))) r3.2)
 else((bn n 93 r3.2).bind fun r4 =>
 some ((af.mk 2 [] [] (([]:List (af))++([r2.1]:List (af)))),(ah.mk r4.2.f_s r4.2.aC (!r4.1))))) else none))
def dc(R_flow_reader_value__o0:ah->Option (af×Bool×ah))(n:Nat):Nat->af->af->ah->Option (af×ah)
 |0,_,_,_=>none
 |k+1,b2,b3,b1000000=>(R_flow_reader_value__o0 b1000000).bind fun r1 =>
 if(bif r1.2.2.bI then true else(!r1.2.1))=true then(some (b3,(ah.mk r1.2.2.f_s r1.2.2.aC (bif r1.2.2.bI then true else(!r1.2.1)))))
 else(if(decide ((List.length b3.aj+List.length ([r1.1]:List (af)))*(72+1)<=limit))=true then((bn n 44 (ah.mk r1.2.2.f_s r1.2.2.aC (bif r1.2.2.bI then true else(!r1.2.1)))).bind fun r2 =>
 if r2.1=true then(dc R_flow_reader_value__o0 n k b2 (af.mk b3.aF b3.au b3.aA (b3.aj++([r1.1]:List (af)))) r2.2)
 else((bn n 93 r2.2).bind fun r3 =>
 some ((af.mk b3.aF b3.au b3.aA (b3.aj++([r1.1]:List (af)))),(ah.mk r3.2.f_s r3.2.aC (!r3.1))))) else none)
end
abbrev zZ(R_flow_reader_value__o0:ah->Option (af×Bool×ah)):Prop:=∀(h0:ah)(r:af×Bool×ah),R_flow_reader_value__o0 h0=some r->aY Tryz.prog 112 [.own 1000000 0] [(1000000,137,[.str h0.f_s,vi h0.aC,vb h0.bI])] (.tup [.agg [vi r.1.aF,.str r.1.au,ls r.1.aA,tn8 r.1.aj],vb r.2.1]) [(1000000,137,[.str r.2.2.f_s,vi r.2.2.aC,vb r.2.2.bI])]
abbrev BZ(x0:ah):=(IntKind.wrap .i64 (x0.aC+1))
theorem rS(R_flow_reader_value__o0:ah->Option (af×Bool×ah))(hR_flow_reader_value__o0:zZ R_flow_reader_value__o0)(n:Nat)(k:Nat):(∀(b2:af)(b1000000:ah)(o:af×ah),cu R_flow_reader_value__o0 n k b2 b1000000=some o->To 53 F0 w0 [(2,.own 2 0)] [(2,26,gq 4123 o.1),(4123,26,[aQ o.1.aj]),(1000000,137,aH o.2)] .ret Q->WG Tryz.prog 53 F0 w0 [(0,.own 1000000 0),(2,.own 2 0)] [(2,26,qc9 b2),(1000000,137,aH b1000000)] (cI (cB (cF Tryz.f126))) (cI (cB (cF Tryz.f126))) Q) /\
 (∀(b2:af)(b3:af)(b1000000:ah)(o:af×ah),dc R_flow_reader_value__o0 n k b2 b3 b1000000=some o->To 53 F0 w0 [(2,.own 2 0)] [(2,26,gq 4123 o.1),(4123,26,[aQ o.1.aj]),(1000000,137,aH o.2)] .ret Q->WG Tryz.prog 53 F0 w0 [(0,.own 1000000 0),(2,.own 2 0),(3,.own 3 0)] [(2,26,qc9 b2),(3,26,gq 4183 b3),(4183,26,[aQ b3.aj]),(1000000,137,aH b1000000)] (cI (cB (cF Tryz.f126))) (cG 0 (cB (cF Tryz.f126))) Q):=by
 induction k with
 |zero=>exact⟨(by intro b2 b1000000 o h;cases h),(by intro b2 b3 b1000000 o h;cases h)⟩
 |succ k ih =>
  refine⟨?_,?_⟩
  ·intro b2 b1000000 o h hQ
   rw[cu] at h
   refine WG.pass (Wp.seq (rg [0,2,3] [2,3,1000000] [(0,.own 1000000 0),(2,.own 2 0),(3,.own 3 0)] [(2,26,qc9 b2),(3,26,[vi 2,.str [],.val (.slice none 0 0),.val (.slice none 0 0)]),(1000000,137,aH b1000000)] (To.ai (Wp.seq (rg [0,2,3] [2,3,1000000] [(0,.own 1000000 0),(2,.own 2 0),(3,.own 3 0)] [(2,26,qc9 b2),(3,26,[vi 2,.str [],.val (.slice none 0 0),.val (.slice none 0 0)]),(zI b1000000)] (To.ai (Wp.seq (Wp.seq ?_))))))))
   obtain⟨r1,hr1,h⟩:=aG h
   refine rb [] 1 ⟨[(1000000,1000000)],[(1000000,1000000)],[.own 1000000 0,.val (.int .u8 93)],[(zI b1000000)],vb r1.1,[(1000000,137,aH r1.2)]⟩ [0,2,3,15] [2,3,1000000] [(0,.own 1000000 0),(2,.own 2 0),(3,.own 3 0),(15,vb r1.1)] [(2,26,qc9 b2),(3,26,[vi 2,.str [],.val (.slice none 0 0),.val (.slice none 0 0)]),(1000000,137,aH r1.2)] ((cy n 93 (Ks b1000000) _ hr1)) (To.ai (cn h (fun h=>?_) (fun h=>?_)))
   ·refine Wp.seq (rg [2] [2,1000000] [(2,.own 2 0)] [(2,26,[vi 2,.str [],.val (.slice none 0 0),.val (.slice none 0 0)]),(1000000,137,aH r1.2)] (To.ai (Wp.ret (To.aO (To.kF (.inr (.inl rfl)) (kt [2] [2,1000000] [(2,.own 2 0)] [(2,26,[vi 2,.str [],.val (.slice none 0 0),.val (.slice none 0 0)]),(1000000,137,aH r1.2)] (To.pre (St.nF 2 3 4123 26 (bP _) (by decide) (by kernel_rfl) (L':=[(2,26,[vi 2,.str [],.val (.slice none 0 0),.row 4123]),(1000000,137,aH r1.2)]) (by kernel_rfl)) (kt [2] [2,4123,1000000] [(2,.own 2 0)] [(2,26,[vi 2,.str [],.val (.slice none 0 0),.row 4123]),(4123,26,[aQ []]),(1000000,137,aH r1.2)] (To.weak (K':=[(2,.own 2 0)]) (L':=[(2,26,[vi 2,.str [],ls [],.row 4123]),(4123,26,[aQ []]),(1000000,137,aH r1.2)]) (.cons (.refl _) .nil) (.cons (.cons (.refl _) (.cons (.refl _) (.cons (.zero _ _) (.cons (.refl _) .nil)))) (.cons (.cons (.refl _) .nil) (.cons (.cons (.refl _) (.cons (.refl _) (.cons (.refl _) .nil))) .nil))) ?_)))))))))
    cases h
    exact hQ
   ·refine Wp.skip (To.ai (Wp.seq (kw [0,2,3,15] [2,3,1000000] [(0,.own 1000000 0),(2,.own 2 0),(3,.own 3 0),(15,vb r1.1)] [(2,26,qc9 b2),(3,26,[vi 2,.str [],.val (.slice none 0 0),.val (.slice none 0 0)]),(1000000,137,aH r1.2)] (Wp.pre (St.nF 3 3 4183 26 (bP _) (by decide) (by kernel_rfl) (L':=[(2,26,qc9 b2),(3,26,[vi 2,.str [],.val (.slice none 0 0),.row 4183]),(1000000,137,aH r1.2)]) (by kernel_rfl)) (kw [0,2,3,15] [2,3,4183,1000000] [(0,.own 1000000 0),(2,.own 2 0),(3,.own 3 0),(15,vb r1.1)] [(2,26,qc9 b2),(3,26,[vi 2,.str [],.val (.slice none 0 0),.row 4183]),(4183,26,[aQ []]),(1000000,137,aH r1.2)] (Wp.label (To.ai (Wp.seq ?_))))))))
    obtain⟨r2,hr2,h⟩:=aG h
    refine rb [] 1 ⟨[(1000000,1000000)],[(1000000,1000000)],[.own 1000000 0],[(1000000,137,aH r1.2)],.tup [.agg (qc9 r2.1),vb r2.2.1],[(1000000,137,aH r2.2.2)]⟩ [0,2,3,4,5] [2,3,4,4183,1000000] [(0,.own 1000000 0),(2,.own 2 0),(3,.own 3 0),(4,.own 4 0),(5,vb r2.2.1)] [(2,26,qc9 b2),(3,26,[vi 2,.str [],.val (.slice none 0 0),.row 4183]),(4,26,qc9 r2.1),(4183,26,[aQ []]),(1000000,137,aH r2.2.2)] ((hR_flow_reader_value__o0 r1.2 _ hr2)) (To.ai (Wp.seq (Wp.seq (rg [0,2,3,4] [2,3,4,4183,1000000] [(0,.own 1000000 0),(2,.own 2 0),(3,.own 3 0),(4,.own 4 0)] [(2,26,qc9 b2),(3,26,[vi 2,.str [],.val (.slice none 0 0),.row 4183]),(4,26,qc9 r2.1),(4183,26,[aQ []]),(1000000,137,[.str r2.2.2.f_s,vi r2.2.2.aC,vb (bif r2.2.2.bI then true else(!r2.2.1))])] (To.ai (Wp.seq (rg [0,2,3,4,36] [2,3,4,4183,1000000] [(0,.own 1000000 0),(2,.own 2 0),(3,.own 3 0),(4,.own 4 0),(36,vb (bif r2.2.2.bI then true else(!r2.2.1)))] [(2,26,qc9 b2),(3,26,[vi 2,.str [],.val (.slice none 0 0),.row 4183]),(4,26,qc9 r2.1),(4183,26,[aQ []]),(1000000,137,[.str r2.2.2.f_s,vi r2.2.2.aC,vb (bif r2.2.2.bI then true else(!r2.2.1))])] (To.ai (cn h (fun h=>?_) (fun h=>?_))))))))))
    ·refine Wp.seq (rg [2] [2,4183,1000000] [(2,.own 2 0)] [(2,26,[vi 2,.str [],.val (.slice none 0 0),.row 4183]),(4183,26,[aQ []]),(1000000,137,[.str r2.2.2.f_s,vi r2.2.2.aC,vb (bif r2.2.2.bI then true else(!r2.2.1))])] (To.ai (Wp.ret (To.aO (To.kF (.inr (.inl rfl)) (nt [2] [2,4183,1000000] [(4183,4123)] [2] [2,4123,1000000] [(2,.own 2 0)] [(2,26,[vi 2,.str [],.val (.slice none 0 0),.row 4123]),(4123,26,[aQ []]),(1000000,137,[.str r2.2.2.f_s,vi r2.2.2.aC,vb (bif r2.2.2.bI then true else(!r2.2.1))])] (To.weak (K':=[(2,.own 2 0)]) (L':=[(2,26,[vi 2,.str [],ls [],.row 4123]),(4123,26,[aQ []]),(1000000,137,[.str r2.2.2.f_s,vi r2.2.2.aC,vb (bif r2.2.2.bI then true else(!r2.2.1))])]) (.cons (.refl _) .nil) (.cons (.cons (.refl _) (.cons (.refl _) (.cons (.zero _ _) (.cons (.refl _) .nil)))) (.cons (.cons (.refl _) .nil) (.cons (.cons (.refl _) (.cons (.refl _) (.cons (.refl _) .nil))) .nil))) ?_)))))))
     cases h
     exact hQ
    ·refine Wp.skip (To.ai (Wp.seq ?_))
     obtain⟨hc5,h⟩:=aK h
     refine rr [] [(3,dP [r2.1]),(4,dP (([]:List (af))++([r2.1]:List (af))))] [] [0,2,3] [2,3,42,1000000] [(0,.own 1000000 0),(2,.own 2 0),(3,.own 3 0)] [(2,26,qc9 b2),(3,26,[vi 2,.str [],.val (.slice none 0 0),.row 42]),(42,26,[aQ (([]:List (af))++([r2.1]:List (af)))]),(1000000,137,[.str r2.2.2.f_s,vi r2.2.2.aC,vb (bif r2.2.2.bI then true else(!r2.2.1))])] [(fV 4 (qc9 r2.1) 1 (dP [r2.1])/\aV (dP [r2.1])),_,(i7 zx7 dU ([]:List (af)) (List.flatMap dU ([r2.1]:List (af))) (List.length ([r2.1]:List (af))) (dP (([]:List (af))++([r2.1]:List (af))))/\aV (dP (([]:List (af))++([r2.1]:List (af)))))] (ax.cons (jY (by kernel_rfl) rfl (by kernel_rfl) (bP _)) (ax.cons hc5 (ax.cons (ja rfl rfl (bP _)) ax.nil))) (To.ai (Wp.seq (Wp.seq ?_)))
     obtain⟨r3,hr3,h⟩:=aG h
     refine rb [] 1 ⟨[(1000000,1000000)],[(1000000,1000000)],[.own 1000000 0,.val (.int .u8 44)],[(1000000,137,[.str r2.2.2.f_s,vi r2.2.2.aC,vb (bif r2.2.2.bI then true else(!r2.2.1))])],vb r3.1,[(1000000,137,aH r3.2)]⟩ [0,2,3,45] [2,3,42,1000000] [(0,.own 1000000 0),(2,.own 2 0),(3,.own 3 0),(45,vb r3.1)] [(2,26,qc9 b2),(3,26,[vi 2,.str [],.val (.slice none 0 0),.row 42]),(42,26,[aQ (([]:List (af))++([r2.1]:List (af)))]),(1000000,137,aH r3.2)] ((cy n 44 (ah.mk r2.2.2.f_s r2.2.2.aC (bif r2.2.2.bI then true else(!r2.2.1))) _ hr3)) (To.ai (cn h (fun h=>?_) (fun h=>?_)))
     ·refine Wp.goto (To.yz (nt [0,2,3] [2,3,42,1000000] [(42,4183)] [0,2,3] [2,3,4183,1000000] [(0,.own 1000000 0),(2,.own 2 0),(3,.own 3 0)] [(2,26,qc9 b2),(3,26,[vi 2,.str [],.val (.slice none 0 0),.row 4183]),(4183,26,[aQ (([]:List (af))++([r2.1]:List (af)))]),(1000000,137,aH r3.2)] (To.weak (K':=[(0,.own 1000000 0),(2,.own 2 0),(3,.own 3 0)]) (L':=[(2,26,qc9 b2),(3,26,[vi 2,.str [],ls [],.row 4183]),(4183,26,[aQ (([]:List (af))++([r2.1]:List (af)))]),(1000000,137,aH r3.2)]) (.cons (.refl _) (.cons (.refl _) (.cons (.refl _) .nil))) (.cons (.cons (.refl _) (.cons (.refl _) (.cons (.refl _) (.cons (.refl _) .nil)))) (.cons (.cons (.refl _) (.cons (.refl _) (.cons (.zero _ _) (.cons (.refl _) .nil)))) (.cons (.cons (.refl _) .nil) (.cons (.cons (.refl _) (.cons (.refl _) (.cons (.refl _) .nil))) .nil)))) (To.goto (rest:=cG 0 (cB (cF Tryz.f126))) (by kernel_rfl) ?_))))
      exact ih.2 b2 (af.mk 2 [] [] (([]:List (af))++([r2.1]:List (af)))) r3.2 _ h hQ
     ·refine Wp.skip (To.ai (Wp.seq ?_))
      obtain⟨r4,hr4,h⟩:=aG h
      refine rb [] 2 ⟨[(1000000,1000000)],[(1000000,1000000)],[.own 1000000 0,.val (.int .u8 93)],[(1000000,137,aH r3.2)],vb r4.1,[(1000000,137,aH r4.2)]⟩ [2,3] [2,3,42,1000000] [(2,.own 2 0),(3,.own 3 0)] [(2,26,qc9 b2),(3,26,[vi 2,.str [],.val (.slice none 0 0),.row 42]),(42,26,[aQ (([]:List (af))++([r2.1]:List (af)))]),(1000000,137,[.str r4.2.f_s,vi r4.2.aC,vb (!r4.1)])] ((cy n 93 r3.2 _ hr4)) (To.ai (Wp.seq (rg [2] [2,42,1000000] [(2,.own 2 0)] [(2,26,[vi 2,.str [],.val (.slice none 0 0),.row 42]),(42,26,[aQ (([]:List (af))++([r2.1]:List (af)))]),(1000000,137,[.str r4.2.f_s,vi r4.2.aC,vb (!r4.1)])] (To.ai (Wp.ret (To.kF (.inr (.inl rfl)) (nt [2] [2,42,1000000] [(42,4123)] [2] [2,4123,1000000] [(2,.own 2 0)] [(2,26,[vi 2,.str [],.val (.slice none 0 0),.row 4123]),(4123,26,[aQ (([]:List (af))++([r2.1]:List (af)))]),(1000000,137,[.str r4.2.f_s,vi r4.2.aC,vb (!r4.1)])] (To.weak (K':=[(2,.own 2 0)]) (L':=[(2,26,[vi 2,.str [],ls [],.row 4123]),(4123,26,[aQ (([]:List (af))++([r2.1]:List (af)))]),(1000000,137,[.str r4.2.f_s,vi r4.2.aC,vb (!r4.1)])]) (.cons (.refl _) .nil) (.cons (.cons (.refl _) (.cons (.refl _) (.cons (.zero _ _) (.cons (.refl _) .nil)))) (.cons (.cons (.refl _) .nil) (.cons (.cons (.refl _) (.cons (.refl _) (.cons (.refl _) .nil))) .nil))) ?_))))))))
      cases h
      exact hQ
  ·intro b2 b3 b1000000 o h hQ
   rw[dc] at h
   refine WG.pass (Wp.seq (Wp.skip (To.ai (Wp.seq ?_))))
   obtain⟨r1,hr1,h⟩:=aG h
   refine rb [] 1 ⟨[(1000000,1000000)],[(1000000,1000000)],[.own 1000000 0],[(1000000,137,aH b1000000)],.tup [.agg (qc9 r1.1),vb r1.2.1],[(1000000,137,aH r1.2.2)]⟩ [0,2,3,4,5] [2,3,4,4183,1000000] [(0,.own 1000000 0),(2,.own 2 0),(3,.own 3 0),(4,.own 4 0),(5,vb r1.2.1)] [(2,26,qc9 b2),(3,26,gq 4183 b3),(4,26,qc9 r1.1),(4183,26,[aQ b3.aj]),(1000000,137,aH r1.2.2)] ((hR_flow_reader_value__o0 b1000000 _ hr1)) (To.ai (Wp.seq (Wp.seq (rg [0,2,3,4] [2,3,4,4183,1000000] [(0,.own 1000000 0),(2,.own 2 0),(3,.own 3 0),(4,.own 4 0)] [(2,26,qc9 b2),(3,26,gq 4183 b3),(4,26,qc9 r1.1),(4183,26,[aQ b3.aj]),(1000000,137,[.str r1.2.2.f_s,vi r1.2.2.aC,vb (bif r1.2.2.bI then true else(!r1.2.1))])] (To.ai (Wp.seq (rg [0,2,3,4,36] [2,3,4,4183,1000000] [(0,.own 1000000 0),(2,.own 2 0),(3,.own 3 0),(4,.own 4 0),(36,vb (bif r1.2.2.bI then true else(!r1.2.1)))] [(2,26,qc9 b2),(3,26,gq 4183 b3),(4,26,qc9 r1.1),(4183,26,[aQ b3.aj]),(1000000,137,[.str r1.2.2.f_s,vi r1.2.2.aC,vb (bif r1.2.2.bI then true else(!r1.2.1))])] (To.ai (cn h (fun h=>?_) (fun h=>?_))))))))))
   ·refine Wp.seq (rg [2] [2,4183,1000000] [(2,.own 2 0)] [(2,26,gq 4183 b3),(4183,26,[aQ b3.aj]),(1000000,137,[.str r1.2.2.f_s,vi r1.2.2.aC,vb (bif r1.2.2.bI then true else(!r1.2.1))])] (To.ai (Wp.ret (To.aO (To.kF (.inr (.inl rfl)) (nt [2] [2,4183,1000000] [(4183,4123)] [2] [2,4123,1000000] [(2,.own 2 0)] [(2,26,gq 4123 b3),(4123,26,[aQ b3.aj]),(1000000,137,[.str r1.2.2.f_s,vi r1.2.2.aC,vb (bif r1.2.2.bI then true else(!r1.2.1))])] ?_))))))
    cases h
    exact hQ
   ·refine Wp.skip (To.ai (Wp.seq ?_))
    obtain⟨hc4,h⟩:=aK h
    refine rr [] [(3,dP [r1.1]),(4,dP (b3.aj++([r1.1]:List (af))))] [] [0,2,3] [2,3,42,1000000] [(0,.own 1000000 0),(2,.own 2 0),(3,.own 3 0)] [(2,26,qc9 b2),(3,26,gq 42 b3),(42,26,[aQ (b3.aj++([r1.1]:List (af)))]),(1000000,137,[.str r1.2.2.f_s,vi r1.2.2.aC,vb (bif r1.2.2.bI then true else(!r1.2.1))])] [(fV 4 (qc9 r1.1) 1 (dP [r1.1])/\aV (dP [r1.1])),_,(i7 zx7 dU b3.aj (List.flatMap dU ([r1.1]:List (af))) (List.length ([r1.1]:List (af))) (dP (b3.aj++([r1.1]:List (af))))/\aV (dP (b3.aj++([r1.1]:List (af)))))] (ax.cons (jY (by kernel_rfl) rfl (by kernel_rfl) (bP _)) (ax.cons hc4 (ax.cons (ja rfl rfl (bP _)) ax.nil))) (To.ai (Wp.seq (Wp.seq ?_)))
    obtain⟨r2,hr2,h⟩:=aG h
    refine rb [] 1 ⟨[(1000000,1000000)],[(1000000,1000000)],[.own 1000000 0,.val (.int .u8 44)],[(1000000,137,[.str r1.2.2.f_s,vi r1.2.2.aC,vb (bif r1.2.2.bI then true else(!r1.2.1))])],vb r2.1,[(1000000,137,aH r2.2)]⟩ [0,2,3,45] [2,3,42,1000000] [(0,.own 1000000 0),(2,.own 2 0),(3,.own 3 0),(45,vb r2.1)] [(2,26,qc9 b2),(3,26,gq 42 b3),(42,26,[aQ (b3.aj++([r1.1]:List (af)))]),(1000000,137,aH r2.2)] ((cy n 44 (ah.mk r1.2.2.f_s r1.2.2.aC (bif r1.2.2.bI then true else(!r1.2.1))) _ hr2)) (To.ai (cn h (fun h=>?_) (fun h=>?_)))
    ·refine Wp.goto (To.yz (nt [0,2,3] [2,3,42,1000000] [(42,4183)] [0,2,3] [2,3,4183,1000000] [(0,.own 1000000 0),(2,.own 2 0),(3,.own 3 0)] [(2,26,qc9 b2),(3,26,gq 4183 b3),(4183,26,[aQ (b3.aj++([r1.1]:List (af)))]),(1000000,137,aH r2.2)] (To.goto (rest:=cG 0 (cB (cF Tryz.f126))) (by kernel_rfl) ?_)))
     exact ih.2 b2 (af.mk b3.aF b3.au b3.aA (b3.aj++([r1.1]:List (af)))) r2.2 _ h hQ
    ·refine Wp.skip (To.ai (Wp.seq ?_))
     obtain⟨r3,hr3,h⟩:=aG h
     refine rb [] 2 ⟨[(1000000,1000000)],[(1000000,1000000)],[.own 1000000 0,.val (.int .u8 93)],[(1000000,137,aH r2.2)],vb r3.1,[(1000000,137,aH r3.2)]⟩ [2,3] [2,3,42,1000000] [(2,.own 2 0),(3,.own 3 0)] [(2,26,qc9 b2),(3,26,gq 42 b3),(42,26,[aQ (b3.aj++([r1.1]:List (af)))]),(1000000,137,[.str r3.2.f_s,vi r3.2.aC,vb (!r3.1)])] ((cy n 93 r2.2 _ hr3)) (To.ai (Wp.seq (rg [2] [2,42,1000000] [(2,.own 2 0)] [(2,26,gq 42 b3),(42,26,[aQ (b3.aj++([r1.1]:List (af)))]),(1000000,137,[.str r3.2.f_s,vi r3.2.aC,vb (!r3.1)])] (To.ai (Wp.ret (To.kF (.inr (.inl rfl)) (nt [2] [2,42,1000000] [(42,4123)] [2] [2,4123,1000000] [(2,.own 2 0)] [(2,26,gq 4123 b3),(4123,26,[aQ (b3.aj++([r1.1]:List (af)))]),(1000000,137,[.str r3.2.f_s,vi r3.2.aC,vb (!r3.1)])] ?_)))))))
     cases h
     exact hQ
def fJ(R_flow_reader_value__o0:ah->Option (af×Bool×ah))(n:Nat)(h0:ah):Option (af×ah) :=
 (cu R_flow_reader_value__o0 n n (af.mk 0 [] [] []) h0).bind fun o1 =>
 some (o1.1,o1.2)
theorem uT(R_flow_reader_value__o0:ah->Option (af×Bool×ah))(hR_flow_reader_value__o0:zZ R_flow_reader_value__o0)(n:Nat)(h0:ah)(r:af×ah)(h:fJ R_flow_reader_value__o0 n h0=some r):aY Tryz.prog 126 [.own 1000000 0] [(1000000,137,aH h0)] (.agg (qc9 r.1)) [(1000000,137,aH r.2)]:=by
 unfold fJ at h
 refine bo Tryz.f126 rfl fun F0 w0=>?_
 refine Wp.seq (rg [0,2] [2,1000000] [(0,.own 1000000 0),(2,.own 2 0)] [(2,26,[vi 0,.str [],.val (.slice none 0 0),.val (.slice none 0 0)]),(1000000,137,aH h0)] (To.ai ?_))
 obtain⟨o1,ho1,h⟩:=aG h
 refine kw [0,2] [2,1000000] [(0,.own 1000000 0),(2,.own 2 0)] [(2,26,[vi 0,.str [],.val (.slice none 0 0),.val (.slice none 0 0)]),(1000000,137,aH h0)] (Wp.weak (K':=[(0,.own 1000000 0),(2,.own 2 0)]) (L':=[(2,26,[vi 0,.str [],ls [],tn8 []]),(1000000,137,aH h0)]) (.cons (.refl _) (.cons (.refl _) .nil)) (.cons (.cons (.refl _) (.cons (.refl _) (.cons (.zero _ _) (.cons (.ig _ _ _) .nil)))) (.cons (.cons (.refl _) (.cons (.refl _) (.cons (.refl _) .nil))) .nil)) (Wp.Fp ((rS R_flow_reader_value__o0 hR_flow_reader_value__o0 n n).1 zx7 h0 o1 ho1 (kt [2] [2,4123,1000000] [(2,.own 2 0)] [(2,26,gq 4123 o1.1),(4123,26,[aQ o1.1.aj]),(1000000,137,aH o1.2)] (To.pre (St.settle (ks:=[4123]) (kk:=[2]) (kl:=[2,4123,1000000]) (K':=[(2,.own 2 0)]) (L':=[(2,26,gq 4123 o1.1),(4123,26,[rN o1.1.aj]),(1000000,137,aH o1.2)]) (by kernel_rfl)) (To.pre (St.Et [2] (L':=[(2,26,I8 o1.1),(4123,26,[rN o1.1.aj]),(1000000,137,aH o1.2)]) (by kernel_rfl)) (To.weak (K':=[(2,.own 2 0)]) (L':=[(2,26,qc9 o1.1),(4123,26,[rN o1.1.aj]),(1000000,137,aH o1.2)]) (.cons (.refl _) .nil) (.cons (.cons (.refl _) (.cons (.refl _) (.cons (.refl _) (.cons (.close _ _ _ _) .nil)))) (.cons (.cons (.refl _) .nil) (.cons (.cons (.refl _) (.cons (.refl _) (.cons (.refl _) .nil))) .nil))) ?_)))))))
 cases h
 exact To.ff hΓ [1000000] (by kernel_rfl) (by kernel_rfl)
def uo:Int->List D:=fun x=>[.val (.int .i64 x)]
def dS(n:Nat)(h0:ah):Option (Bs×ah) :=
 (bp n h0.f_s h0.aC).bind fun r1 =>
 if(r1.2.2 != 0)=true then(some ([],(ah.mk h0.f_s h0.aC true)))
 else(some (r1.1,(ah.mk h0.f_s r1.2.1 h0.bI)))
end Go.Proofs.YtefojkdckfidcaaGreatDoor.M
