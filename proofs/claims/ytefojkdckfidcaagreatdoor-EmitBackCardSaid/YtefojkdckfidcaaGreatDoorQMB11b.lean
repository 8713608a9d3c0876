import Derived.Test.YtefojkdckfidcaaGreatDoorQMB11a
set_option linter.all false
namespace Go.Proofs.YtefojkdckfidcaaGreatDoor.M
open Go.RowKit Go.Proofs.YtefojkdckfidcaaGreatDoor.RX
set_option maxRecDepth 100000
def sR(n:Nat)(a0:ax)(a1:Int):Option (ax) :=
 if(bif (decide (a1<0)) then true else(decide (a1>(List.length a0.av:Int))))=true then some a0
 else(if(decide (0<=a1/\a1<=(List.length a0.av:Int)))=true then(aR ((IntKind.wrap .i64 ((IntKind.wrap .i64 (a0.aH+(List.length a0.av:Int)))-(List.length (Lib.trimLeftB (List.drop (Int.toNat a1) a0.av) 32):Int))):Int) fun x1 =>
 some (ax.mk a0.eP x1 (Lib.trimLeftB (List.drop (Int.toNat a1) a0.av) 32))) else none)
abbrev l6(x:ax):List D:=[vi x.eP,vi x.aH,.str x.av]
abbrev BX(x0:Int)(x1:ax):=(Lib.trimLeftB (List.drop (Int.toNat x0) x1.av) 32)
theorem He(n:Nat)(a0:ax)(a1:Int)(r:ax)(h:sR n a0 a1=some r):bg Tryz.prog 87 [.agg (l6 a0),vi a1] (.agg (l6 r)):=by
 unfold sR at h
 refine xo Tryz.f87 rfl fun F0 w0 _=>?_
 refine Wp.seq (rg [1,2,4] [2,4] [(1,vi a1),(2,.own 2 0),(4,.own 4 0)] [(2,50,l6 a0),(4,50,[vi 0,vi 0,.str []])] (To.ah (Wp.seq (Wp.seq (rg [1,2,4,14] [2,4] [(1,vi a1),(2,.own 2 0),(4,.own 4 0),(14,vb (bif (decide (a1<0)) then true else(decide (a1>(List.length a0.av:Int)))))] [(2,50,l6 a0),(4,50,[vi 0,vi 0,.str []])] (To.ah (cn h (fun h=>?_) (fun h=>?_))))))))
 ·refine Wp.seq (rg [4] [4] [(4,.own 4 0)] [(4,50,l6 a0)] (To.ah (Wp.ret (To.aO ?_))))
  cases h
  exact To.done hΓ (by kernel_rfl)
 ·refine Wp.skip (To.ah (Wp.seq ?_))
  obtain⟨hc2,h⟩:=aL h
  refine rr [] [(4,.str (BX a1 a0))] [] [2,4,5] [2,4] [(2,.own 2 0),(4,.own 4 0),(5,.str (BX a1 a0))] [(2,50,l6 a0),(4,50,[vi 0,vi 0,.str []])] [_,(true=true->CX Tryz.prog 34 [.str (List.drop (Int.toNat a1) a0.av),.str [32]] (.str (BX a1 a0)))] (au.cons hc2 (au.cons (fun _=>cx (Sh.uN (by decide))) au.nil)) (To.ah (Wp.seq ?_))
  obtain⟨x1,hx1,h⟩:=bI h
  refine rg [4] [4] [(4,.own 4 0)] [(4,50,[vi a0.eP,vi (IntKind.wrap .i64 ((IntKind.wrap .i64 (a0.aH+(List.length a0.av:Int)))-(List.length (BX a1 a0):Int))),.str (BX a1 a0)])] (To.eq (K':=[(4,.own 4 0)]) (L':=[(4,50,[vi a0.eP,vi x1,.str (BX a1 a0)])]) (by cases hx1;rfl) (by cases hx1;rfl) (To.ah (Wp.ret ?_)))
  cases h
  exact To.done hΓ (by kernel_rfl)
def mg(n:Nat)(v0:Bs)(v5:List (ax))(v6:Int):Option (Sum (Bs×(List (ax))) (Int×Int)) :=
 if(decide (List.length v0<4294967281))=true then(aR ((IntKind.wrap .i64 ((List.length ((Lib.cut v0 ([10]:Bs)).1):Int)-(List.length (Lib.trimLeftB ((Lib.cut v0 ([10]:Bs)).1) 32):Int))):Int) fun x2 =>
 if(decide (0<=x2/\x2<=(List.length ((Lib.cut v0 ([10]:Bs)).1):Int)))=true then((iF n (List.drop (Int.toNat x2) ((Lib.cut v0 ([10]:Bs)).1))).bind fun r3 =>
 aR ((bif (!r3.2) then true else(bif (x2==0) then(bif (r3.1==[45,45,45]) then true else(r3.1==[46,46,46])) else false)):Bool) fun x4 =>
 if x4=true then(some (.inr (v6,3)))
 else(if(!(r3.1==[]))=true then(if(decide ((List.length v5+List.length ([(ax.mk v6 x2 r3.1)]:List (ax)))*(32+1)<=limit))=true then(some (.inl ((Lib.cut v0 ([10]:Bs)).2.1,(v5++([(ax.mk v6 x2 r3.1)]:List (ax)))))) else none)
 else(some (.inl ((Lib.cut v0 ([10]:Bs)).2.1,v5))))) else none) else none
abbrev gv:ax:=ax.mk 0 0 []
abbrev aK(l:List (ax)):D:=.aP false (α:=ax) gv lV l
abbrev xT(l:List (ax)):D:=.recs (α:=ax) gv lV l
abbrev jh(x0:Bs):=(Lib.cut x0 ([10]:Bs))
variable {F0:Fz} {w0:Pt Tryz.prog} {Q:Exit->Act->World->Prop}
theorem xg(n:Nat)(v0:Bs)(v5:List (ax))(v6:Int)(o:Sum (Bs×(List (ax))) (Int×Int))(h:mg n v0 v5 v6=some o)(hQ:(Sum.elim (fun s=>To 65 F0 w0 [(0,.str s.1),(5,.row 1005),(6,vi v6)] [(1005,50,[aK s.2])] .normal Q) (fun s=>To 65 F0 w0 [(2,.val (.slice none 0 0)),(3,vi s.1),(4,vi s.2)] [] .ret Q)) o):Wp Tryz.prog 65 F0 w0 [(0,.str v0),(5,.row 1005),(6,vi v6)] [(1005,50,[aK v5])] (cA (cB (cI (cI (cB (cA (cB (cB (cB (cF Tryz.f23)))))))))) Q:=by
 unfold mg at h
 refine Wp.block (Wp.seq ?_)
 obtain⟨u1,h⟩:=aL h
 refine rr [] [(1,.tup [.str ((jh v0).1),.str ((jh v0).2.1),vb ((jh v0).2.2)])] [] [5,6,7,8] [1005] [(5,.row 1005),(6,vi v6),(7,.str ((jh v0).1)),(8,.str ((jh v0).2.1))] [(1005,50,[aK v5])] [(true=true->CX Tryz.prog 53 [.str v0,.str [10]] (.tup [.str ((jh v0).1),.str ((jh v0).2.1),vb ((jh v0).2.2)]))] (au.cons (fun _=>cx (Sh.RQ u1)) au.nil) (To.ah (Wp.seq (rg [0,5,6,7] [1005] [(0,.str ((jh v0).2.1)),(5,.row 1005),(6,vi v6),(7,.str ((jh v0).1))] [(1005,50,[aK v5])] (To.ah (Wp.seq ?_)))))
 obtain⟨x2,hx2,h⟩:=bI h
 refine rr [] [(3,.str (Lib.trimLeftB ((jh v0).1) 32))] [] [0,5,6,7,10] [1005] [(0,.str ((jh v0).2.1)),(5,.row 1005),(6,vi v6),(7,.str ((jh v0).1)),(10,vi (IntKind.wrap .i64 ((List.length ((jh v0).1):Int)-(List.length (Lib.trimLeftB ((jh v0).1) 32):Int))))] [(1005,50,[aK v5])] [(true=true->CX Tryz.prog 34 [.str ((jh v0).1),.str [32]] (.str (Lib.trimLeftB ((jh v0).1) 32)))] (au.cons (fun _=>cx (Sh.uN (by decide))) au.nil) (To.eq (K':=[(0,.str ((jh v0).2.1)),(5,.row 1005),(6,vi v6),(7,.str ((jh v0).1)),(10,vi x2)]) (L':=[(1005,50,[aK v5])]) (by cases hx2;rfl) (by cases hx2;rfl) (To.ah (Wp.seq ?_)))
 obtain⟨hc6,h⟩:=aL h
 obtain⟨r3,hr3,h⟩:=aF h
 refine rr [] [(3,.tup [.str r3.1,vb r3.2])] [] [0,5,6,10,11,12] [1005] [(0,.str ((jh v0).2.1)),(5,.row 1005),(6,vi v6),(10,vi x2),(11,.str r3.1),(12,vb r3.2)] [(1005,50,[aK v5])] [_,_] (au.cons hc6 (au.cons (c1 (GF n (List.drop (Int.toNat x2) ((jh v0).1)) _ hr3)) au.nil)) (To.ah (Wp.seq (Wp.seq ?_)))
 obtain⟨x4,hx4,h⟩:=bI h
 refine rg [0,5,6,10,11,53] [1005] [(0,.str ((jh v0).2.1)),(5,.row 1005),(6,vi v6),(10,vi x2),(11,.str r3.1),(53,vb (bif (!r3.2) then true else(bif (x2==0) then(bif (r3.1==[45,45,45]) then true else(r3.1==[46,46,46])) else false)))] [(1005,50,[aK v5])] (To.eq (K':=[(0,.str ((jh v0).2.1)),(5,.row 1005),(6,vi v6),(10,vi x2),(11,.str r3.1),(53,vb x4)]) (L':=[(1005,50,[aK v5])]) (by cases hx4;rfl) (by cases hx4;rfl) (To.ah (cn h (fun h=>?_) (fun h=>?_))))
 ·refine Wp.seq (rg [2,3,4] [] [(2,.val (.slice none 0 0)),(3,vi v6),(4,vi 3)] [] (To.ah (Wp.ret (To.aO (To.aU ?_)))))
  cases h
  exact hQ
 ·refine Wp.skip (To.ah (Wp.seq (rg [0,5,6,10,11,56] [1005] [(0,.str ((jh v0).2.1)),(5,.row 1005),(6,vi v6),(10,vi x2),(11,.str r3.1),(56,vb (!(r3.1==[])))] [(1005,50,[aK v5])] (To.ah (cn h (fun h=>?_) (fun h=>?_))))))
  ·obtain⟨hc5,h⟩:=aL h
   refine rr [] [(5,xT [(ax.mk v6 x2 r3.1)]),(6,xT (v5++([(ax.mk v6 x2 r3.1)]:List (ax))))] [] [0,5,6] [63] [(0,.str ((jh v0).2.1)),(5,.row 63),(6,vi v6)] [(63,50,[aK (v5++([(ax.mk v6 x2 r3.1)]:List (ax)))])] [(fD 3 [vi v6,vi x2,.str r3.1] 1 (xT [(ax.mk v6 x2 r3.1)])/\aX (xT [(ax.mk v6 x2 r3.1)])),_,(iN gv lV v5 (List.flatMap lV ([(ax.mk v6 x2 r3.1)]:List (ax))) (List.length ([(ax.mk v6 x2 r3.1)]:List (ax))) (xT (v5++([(ax.mk v6 x2 r3.1)]:List (ax))))/\aX (xT (v5++([(ax.mk v6 x2 r3.1)]:List (ax)))))] (au.cons (jN (by kernel_rfl) rfl (by kernel_rfl) (jW _)) (au.cons hc5 (au.cons (iP rfl rfl (jW _)) au.nil))) (To.bf (nt [0,5,6] [63] [(63,1005)] [0,5,6] [1005] [(0,.str ((jh v0).2.1)),(5,.row 1005),(6,vi v6)] [(1005,50,[aK (v5++([(ax.mk v6 x2 r3.1)]:List (ax)))])] ?_))
   cases h
   exact hQ
  ·refine Wp.skip (To.bf (kt [0,5,6] [1005] [(0,.str ((jh v0).2.1)),(5,.row 1005),(6,vi v6)] [(1005,50,[aK v5])] ?_))
   cases h
   exact hQ
def jD(n:Nat):Nat->Bs->(List (ax))->Int->Option (Sum ((List (ax))) (Int×Int))
 |0,_,_,_=>none
 |k+1,v0,v5,v6=>if(!(v0==[]))=true then((mg n v0 v5 v6).bind fun o1 =>
 (Sum.elim (fun o1=>jD n k o1.1 o1.2 (IntKind.wrap .i64 (v6+1))) (fun o1=>some (.inr (o1.1,o1.2)))) o1)
 else(some (.inl v5))
theorem yo(n:Nat)(k:Nat):∀(v0:Bs)(v5:List (ax))(v6:Int)(o:Sum ((List (ax))) (Int×Int)),jD n k v0 v5 v6=some o->(Sum.elim (fun s=>To 65 F0 w0 [(5,.row 1005)] [(1005,50,[aK s])] (.exit 0) Q) (fun s=>To 65 F0 w0 [(2,.val (.slice none 0 0)),(3,vi s.1),(4,vi s.2)] [] .ret Q)) o->WL Tryz.prog 65 F0 w0 [(0,.str v0),(5,.row 1005),(6,vi v6)] [(1005,50,[aK v5])] (cI (cI (cB (cA (cB (cB (cB (cF Tryz.f23)))))))) Q:=by
 induction k with
 |zero=>intro v0 v5 v6 o h;cases h
 |succ k ih =>
  intro v0 v5 v6 o h hQ
  rw[jD] at h
  refine WL.round (Wp.seq (Wp.seq (rg [0,5,6,17] [1005] [(0,.str v0),(5,.row 1005),(6,vi v6),(17,vb (!(v0==[])))] [(1005,50,[aK v5])] (To.ah (cn h (fun h=>?_) (fun h=>?_))))))
  ·refine Wp.skip (To.ah (Wp.seq ?_))
   obtain⟨o1,ho1,h⟩:=aF h
   refine kw [0,5,6] [1005] [(0,.str v0),(5,.row 1005),(6,vi v6)] [(1005,50,[aK v5])] (xg n v0 v5 v6 o1 ho1 ?_)
   rcases o1 with o1|o1
   ·replace h:=iU h
    refine To.ah (rg [0,5,6] [1005] [(0,.str o1.1),(5,.row 1005),(6,vi (IntKind.wrap .i64 (v6+1)))] [(1005,50,[aK o1.2])] (kt [0,5,6] [1005] [(0,.str o1.1),(5,.row 1005),(6,vi (IntKind.wrap .i64 (v6+1)))] [(1005,50,[aK o1.2])] (To.again ?_)))
    exact ih o1.1 o1.2 (IntKind.wrap .i64 (v6+1)) _ h hQ
   ·replace h:=iV h
    refine To.aO (To.aO (kt [2,3,4] [] [(2,.val (.slice none 0 0)),(3,vi o1.1),(4,vi o1.2)] [] ?_))
    cases h
    exact hQ
  ·refine Wp.exit (To.dE (To.dE (kt [5] [1005] [(5,.row 1005)] [(1005,50,[aK v5])] ?_)))
   cases h
   exact hQ
def kH(n:Nat)(a0:Bs):Option ((List (ax))×Int×Int) :=
 if(decide ((List.length a0:Int)>8192))=true then(some (([]:List (ax)),0,9))
 else((jD n n a0 ([]:List (ax)) 1).bind fun o1 =>
 (Sum.elim (fun o1=>some (o1,0,0)) (fun o1=>some (([]:List (ax)),o1.1,o1.2))) o1)
theorem BD(n:Nat)(a0:Bs)(r:(List (ax))×Int×Int)(h:kH n a0=some r):aZ Tryz.prog 23 [.str a0] [] (.tup [.row 1,vi r.2.1,vi r.2.2]) [(1,50,[aK r.1])]:=by
 unfold kH at h
 refine bo Tryz.f23 rfl fun F0 w0=>?_
 refine Wp.seq (rg [0] [] [(0,.str a0)] [] (To.ah (Wp.seq (Wp.seq (rg [0,15] [] [(0,.str a0),(15,vb (decide ((List.length a0:Int)>8192)))] [] (To.ah (cn h (fun h=>?_) (fun h=>?_))))))))
 ·refine Wp.seq (rg [2,3,4] [] [(2,.val (.slice none 0 0)),(3,vi 0),(4,vi 9)] [] (To.ah (Wp.ret (To.aO (To.pre (St.AO (t:=2) (k:=1002) (e:=50) (K':=[(2,.row 1002),(3,vi 0),(4,vi 9)]) (jW _) (by decide) (by kernel_rfl) (by kernel_rfl)) (kt [2,3,4] [1002] [(2,.row 1002),(3,vi 0),(4,vi 9)] [(1002,50,[aK []])] (To.pre (St.rename 1002 1 (by decide) (K':=[(2,.row 1),(3,vi 0),(4,vi 9)]) (L':=[(1,50,[aK []])]) (by kernel_rfl) (by kernel_rfl) (by kernel_rfl)) ?_)))))))
  cases h
  exact To.fl hΓ [1] (by kernel_rfl) (by kernel_rfl)
 ·refine Wp.skip (To.ah (Wp.seq (rg [0,5] [] [(0,.str a0),(5,.val (.slice none 0 0))] [] (To.ah (Wp.seq (Wp.seq (rg [0,5,6] [] [(0,.str a0),(5,.val (.slice none 0 0)),(6,vi 1)] [] (To.ah (Wp.block ?_)))))))))
  obtain⟨o1,ho1,h⟩:=aF h
  refine kw [0,5,6] [] [(0,.str a0),(5,.val (.slice none 0 0)),(6,vi 1)] [] (Wp.pre (St.AO (t:=5) (k:=1005) (e:=50) (K':=[(0,.str a0),(5,.row 1005),(6,vi 1)]) (jW _) (by decide) (by kernel_rfl) (by kernel_rfl)) (kw [0,5,6] [1005] [(0,.str a0),(5,.row 1005),(6,vi 1)] [(1005,50,[aK []])] (Wp.jB (yo n n a0 ([]:List (ax)) 1 o1 ho1 ?_))))
  rcases o1 with o1|o1
  ·replace h:=iU h
   refine To.iI (To.ah (Wp.seq (rg [2,3,4] [1005] [(2,.row 1005),(3,vi 0),(4,vi 0)] [(1005,50,[aK o1])] (To.ah (Wp.ret (nt [2,3,4] [1005] [(1005,1002)] [2,3,4] [1002] [(2,.row 1002),(3,vi 0),(4,vi 0)] [(1002,50,[aK o1])] (To.pre (St.rename 1002 1 (by decide) (K':=[(2,.row 1),(3,vi 0),(4,vi 0)]) (L':=[(1,50,[aK o1])]) (by kernel_rfl) (by kernel_rfl) (by kernel_rfl)) ?_)))))))
   cases h
   exact To.fl hΓ [1] (by kernel_rfl) (by kernel_rfl)
  ·replace h:=iV h
   refine To.aU (To.aO (kt [2,3,4] [] [(2,.val (.slice none 0 0)),(3,vi o1.1),(4,vi o1.2)] [] (To.pre (St.AO (t:=2) (k:=1002) (e:=50) (K':=[(2,.row 1002),(3,vi o1.1),(4,vi o1.2)]) (jW _) (by decide) (by kernel_rfl) (by kernel_rfl)) (kt [2,3,4] [1002] [(2,.row 1002),(3,vi o1.1),(4,vi o1.2)] [(1002,50,[aK []])] (To.pre (St.rename 1002 1 (by decide) (K':=[(2,.row 1),(3,vi o1.1),(4,vi o1.2)]) (L':=[(1,50,[aK []])]) (by kernel_rfl) (by kernel_rfl) (by kernel_rfl)) ?_)))))
   cases h
   exact To.fl hΓ [1] (by kernel_rfl) (by kernel_rfl)
def ie(v1:Int)(v2:Int)(v11:Bool)(b6:af)(b1000000:ak):ak :=
 if v11=true then((ak.mk b1000000.f_l b1000000.aC v1 v2))
 else b1000000
abbrev aM(k0:Nat)(x:ak):List D:=[.row k0,vi x.aC,vi x.mF,vi x.f_e]
abbrev fq(x0:ak):Nat×Nat×List D:=(504000,50,[aK x0.f_l])
abbrev iC(x0:ak):Nat×Nat×List D:=(1000000,46,aM 504000 x0)
theorem pq(v1:Int)(v2:Int)(v11:Bool)(b6:af)(b1000000:ak)(o:ak)(h:ie v1 v2 v11 b6 b1000000=o)(hQ:To 21 F0 w0 [(6,.own 6 0)] [(6,26,qc6 b6),(504000,50,[aK o.f_l]),(1000000,46,aM 504000 o)] .normal Q):Wp Tryz.prog 21 F0 w0 [(0,.own 1000000 0),(1,vi v1),(2,vi v2),(6,.own 6 0),(11,vb v11)] [(6,26,qc6 b6),(fq b1000000),(iC b1000000)] (cB (cA (cB (cF Tryz.f25)))) Q:=by
 unfold ie at h
 refine cn h (fun h=>?_) (fun h=>?_)
 ·refine rg [6] [6,504000,1000000] [(6,.own 6 0)] [(6,26,qc6 b6),(fq b1000000),(1000000,46,[.row 504000,vi b1000000.aC,vi v1,vi v2])] (kt [6] [6,504000,1000000] [(6,.own 6 0)] [(6,26,qc6 b6),(fq b1000000),(1000000,46,[.row 504000,vi b1000000.aC,vi v1,vi v2])] ?_)
  cases h
  exact hQ
 ·refine Wp.skip (kt [6] [6,504000,1000000] [(6,.own 6 0)] [(6,26,qc6 b6),(fq b1000000),(iC b1000000)] ?_)
  cases h
  exact hQ
def df(a1:Int)(a2:Int)(h0:ak):af×ak :=
 aR (ie a1 a2 (h0.f_e==0) (af.mk 0 [] [] []) h0) fun o1 =>
 ((af.mk 0 [] [] []),o1)
theorem fu(a1:Int)(a2:Int)(h0:ak)(r:af×ak)(h:df a1 a2 h0=r):aZ Tryz.prog 25 [.own 1000000 0,vi a1,vi a2] [(1000000,46,aM 1010000 h0),(1010000,50,[aK h0.f_l])] (.agg (qc6 r.1)) [(200,50,[aK r.2.f_l]),(1000000,46,aM 200 r.2)]:=by
 unfold df at h
 refine bo Tryz.f25 rfl fun F0 w0=>?_
 refine nw [0,1,2] [1000000,1010000] [(1010000,504000)] [0,1,2] [504000,1000000] [(0,.own 1000000 0),(1,vi a1),(2,vi a2)] [(504000,50,[aK h0.f_l]),(1000000,46,aM 504000 h0)] (Wp.seq (rg [0,1,2,6] [6,504000,1000000] [(0,.own 1000000 0),(1,vi a1),(2,vi a2),(6,.own 6 0)] [(6,26,[vi 0,.str [],.val (.slice none 0 0),.val (.slice none 0 0)]),(504000,50,[aK h0.f_l]),(1000000,46,aM 504000 h0)] (To.ah (Wp.seq (Wp.seq (rg [0,1,2,6,11] [6,504000,1000000] [(0,.own 1000000 0),(1,vi a1),(2,vi a2),(6,.own 6 0),(11,vb (h0.f_e==0))] [(6,26,[vi 0,.str [],.val (.slice none 0 0),.val (.slice none 0 0)]),(504000,50,[aK h0.f_l]),(1000000,46,aM 504000 h0)] (To.ah ?_)))))))
 obtain⟨o1,ho1,h⟩:=bI h
 refine kw [0,1,2,6,11] [6,504000,1000000] [(0,.own 1000000 0),(1,vi a1),(2,vi a2),(6,.own 6 0),(11,vb (h0.f_e==0))] [(6,26,[vi 0,.str [],.val (.slice none 0 0),.val (.slice none 0 0)]),(504000,50,[aK h0.f_l]),(1000000,46,aM 504000 h0)] (Wp.weak (K':=[(0,.own 1000000 0),(1,vi a1),(2,vi a2),(6,.own 6 0),(11,vb (h0.f_e==0))]) (L':=[(6,26,[vi 0,.str [],ls [],tn4 []]),(504000,50,[aK h0.f_l]),(1000000,46,aM 504000 h0)]) (.cons (.refl _) (.cons (.refl _) (.cons (.refl _) (.cons (.refl _) (.cons (.refl _) .nil))))) (.cons (.cons (.refl _) (.cons (.refl _) (.cons (.zero _ _) (.cons (.ik _ _ _) .nil)))) (.cons (.cons (.refl _) .nil) (.cons (.cons (.refl _) (.cons (.refl _) (.cons (.refl _) (.cons (.refl _) .nil)))) .nil))) (pq a1 a2 (h0.f_e==0) zx3 h0 o1 ho1 (To.ah (Wp.seq (rg [6] [6,504000,1000000] [(6,.own 6 0)] [(6,26,[vi 0,.str [],.val (.slice none 0 0),.val (.slice none 0 0)]),(504000,50,[aK o1.f_l]),(1000000,46,aM 504000 o1)] (To.ah (Wp.ret (To.weak (K':=[(6,.own 6 0)]) (L':=[(6,26,[vi 0,.str [],ls [],tn4 []]),(504000,50,[aK o1.f_l]),(1000000,46,aM 504000 o1)]) (.cons (.refl _) .nil) (.cons (.cons (.refl _) (.cons (.refl _) (.cons (.zero _ _) (.cons (.ik _ _ _) .nil)))) (.cons (.cons (.refl _) .nil) (.cons (.cons (.refl _) (.cons (.refl _) (.cons (.refl _) (.cons (.refl _) .nil)))) .nil))) (To.pre (St.rename 504000 200 (by decide) (K':=[(6,.own 6 0)]) (L':=[(6,26,[vi 0,.str [],ls [],tn4 []]),(200,50,[aK o1.f_l]),(1000000,46,aM 200 o1)]) (by kernel_rfl) (by kernel_rfl) (by kernel_rfl)) ?_)))))))))
 cases h
 exact To.fl hΓ [200,1000000] (by kernel_rfl) (by kernel_rfl)
def iM(n:Nat)(a1:Int)(h0:ak):Option (ax×Bool×ak) :=
 if(bif (h0.f_e != 0) then true else(h0.aC==(List.length h0.f_l:Int)))=true then(some ((ax.mk 0 0 []),false,h0))
 else(if(decide (0<=h0.aC/\h0.aC<(List.length h0.f_l:Int)))=true then(some (((h0.f_l)[Int.toNat h0.aC]?.getD (ax.mk 0 0 [])),(decide ((((h0.f_l)[Int.toNat h0.aC]?.getD (ax.mk 0 0 [])).aH)>a1)),h0)) else none)
theorem rq(n:Nat)(a1:Int)(h0:ak)(r:ax×Bool×ak)(h:iM n a1 h0=some r):aZ Tryz.prog 109 [.own 1000000 0,vi a1] [(1000000,46,aM 1010000 h0),(1010000,50,[aK h0.f_l])] (.tup [.agg (l6 r.1),vb r.2.1]) [(200,50,[aK r.2.2.f_l]),(1000000,46,aM 200 r.2.2)]:=by
 unfold iM at h
 refine bo Tryz.f109 rfl fun F0 w0=>?_
 refine nw [0,1] [1000000,1010000] [(1010000,504000)] [0,1] [504000,1000000] [(0,.own 1000000 0),(1,vi a1)] [(504000,50,[aK h0.f_l]),(1000000,46,aM 504000 h0)] (Wp.seq (rg [0,1,4] [4,504000,1000000] [(0,.own 1000000 0),(1,vi a1),(4,.own 4 0)] [(4,50,[vi 0,vi 0,.str []]),(504000,50,[aK h0.f_l]),(1000000,46,aM 504000 h0)] (To.ah (Wp.seq (Wp.seq (Wp.eH hm hΓ [] [0,1,4,22] [4,504000,1000000] (K':=[(0,.own 1000000 0),(1,vi a1),(4,.own 4 0),(22,vb (bif (h0.f_e != 0) then true else(h0.aC==(List.length h0.f_l:Int))))]) (L':=[(4,50,[vi 0,vi 0,.str []]),(504000,50,[aK h0.f_l]),(1000000,46,aM 504000 h0)]) (ob:=[]) (by kernel_rfl) au.nil (To.ah (cn h (fun h=>?_) (fun h=>?_)))))))))
 ·refine Wp.seq (rg [4,5] [4,504000,1000000] [(4,.own 4 0),(5,vb false)] [(4,50,[vi 0,vi 0,.str []]),(504000,50,[aK h0.f_l]),(1000000,46,aM 504000 h0)] (To.ah (Wp.ret (To.aO (nt [4,5] [4,504000,1000000] [(504000,200)] [4,5] [4,200,1000000] [(4,.own 4 0),(5,vb false)] [(4,50,[vi 0,vi 0,.str []]),(200,50,[aK h0.f_l]),(1000000,46,aM 200 h0)] ?_)))))
  cases h
  exact To.fl hΓ [200,1000000] (by kernel_rfl) (by kernel_rfl)
 ·refine Wp.skip (To.ah (Wp.seq ?_))
  obtain⟨hc1,h⟩:=aL h
  refine Wp.eH hm hΓ [] [4,5] [4,504000,1000000] (K':=[(4,.own 4 0),(5,vb (decide ((((h0.f_l)[Int.toNat h0.aC]?.getD gv).aH)>a1)))]) (L':=[(4,50,[vi (((h0.f_l)[Int.toNat h0.aC]?.getD gv).eP),vi (((h0.f_l)[Int.toNat h0.aC]?.getD gv).aH),.str (((h0.f_l)[Int.toNat h0.aC]?.getD gv).av)]),(504000,50,[aK h0.f_l]),(1000000,46,aM 504000 h0)]) (ob:=[(decide (0<=h0.aC/\h0.aC<(List.length h0.f_l:Int)))=true,(decide (0<=h0.aC/\h0.aC<(List.length h0.f_l:Int)))=true,(decide (0<=h0.aC/\h0.aC<(List.length h0.f_l:Int)))=true,(decide (0<=h0.aC/\h0.aC<(List.length h0.f_l:Int)))=true]) (by kernel_rfl) (au.cons hc1 (au.cons hc1 (au.cons hc1 (au.cons hc1 au.nil)))) (To.ah (Wp.ret (nt [4,5] [4,504000,1000000] [(504000,200)] [4,5] [4,200,1000000] [(4,.own 4 0),(5,vb (decide ((((h0.f_l)[Int.toNat h0.aC]?.getD gv).aH)>a1)))] [(4,50,[vi (((h0.f_l)[Int.toNat h0.aC]?.getD gv).eP),vi (((h0.f_l)[Int.toNat h0.aC]?.getD gv).aH),.str (((h0.f_l)[Int.toNat h0.aC]?.getD gv).av)]),(200,50,[aK h0.f_l]),(1000000,46,aM 200 h0)] ?_)))
  cases h
  exact To.fl hΓ [200,1000000] (by kernel_rfl) (by kernel_rfl)
def eO(R_block_reader_block__o0_s2:ak->Option (af×ak))(n:Nat)(a1:Int)(a2:Bool)(h0:ak):Option (af×ak) :=
 (iM n a1 h0).bind fun r1 =>
 aR ((bif (!r1.2.1) then(bif (bif (bif (bif (!a2) then true else(r1.2.2.f_e != 0)) then true else(r1.2.2.aC==(List.length r1.2.2.f_l:Int))) then true else(r1.1.aH != a1)) then true else(!(ft r1.1.av))) else false):Bool) fun x2 =>
 if x2=true then(some ((af.mk 0 [] [] []),r1.2.2))
 else((R_block_reader_block__o0_s2 r1.2.2).bind fun r3 =>
 some (r3.1,r3.2))
abbrev wV(R_block_reader_block__o0_s2:ak->Option (af×ak)):Prop:=∀(h0:ak)(r:af×ak),R_block_reader_block__o0_s2 h0=some r->aZ Tryz.prog 24 [.own 1000000 0] [(1000000,46,[.row 1010000,vi h0.aC,vi h0.mF,vi h0.f_e]),(1010000,50,[aK h0.f_l])] (.agg [vi r.1.aG,.str r.1.av,ls r.1.ay,tn4 r.1.aj]) [(200,50,[aK r.2.f_l]),(1000000,46,[.row 200,vi r.2.aC,vi r.2.mF,vi r.2.f_e])]
theorem kS(R_block_reader_block__o0_s2:ak->Option (af×ak))(hR_block_reader_block__o0_s2:wV R_block_reader_block__o0_s2)(n:Nat)(a1:Int)(a2:Bool)(h0:ak)(r:af×ak)(h:eO R_block_reader_block__o0_s2 n a1 a2 h0=some r):aZ Tryz.prog 86 [.own 1000000 0,vi a1,vb a2] [(1000000,46,aM 1010000 h0),(1010000,50,[aK h0.f_l])] (.agg (qc6 r.1)) [(200,50,[aK r.2.f_l]),(1000000,46,aM 200 r.2)]:=by
 unfold eO at h
 refine bo Tryz.f86 rfl fun F0 w0=>?_
 refine nw [0,1,2] [1000000,1010000] [(1010000,504000)] [0,1,2] [504000,1000000] [(0,.own 1000000 0),(1,vi a1),(2,vb a2)] [(504000,50,[aK h0.f_l]),(1000000,46,aM 504000 h0)] (Wp.seq (rg [0,1,2,6] [6,504000,1000000] [(0,.own 1000000 0),(1,vi a1),(2,vb a2),(6,.own 6 0)] [(6,26,[vi 0,.str [],.val (.slice none 0 0),.val (.slice none 0 0)]),(504000,50,[aK h0.f_l]),(1000000,46,aM 504000 h0)] (To.ah (Wp.seq ?_))))
 obtain⟨r1,hr1,h⟩:=aF h
 refine rb [] 2 ⟨[(1000000,1000000),(1010000,504000)],[(200,504000),(1000000,1000000)],[.own 1000000 0,vi a1],[(1000000,46,aM 1010000 h0),(1010000,50,[aK h0.f_l])],.tup [.agg (l6 r1.1),vb r1.2.1],[(200,50,[aK r1.2.2.f_l]),(1000000,46,aM 200 r1.2.2)]⟩ [0,1,2,6,7,8] [6,7,504000,1000000] [(0,.own 1000000 0),(1,vi a1),(2,vb a2),(6,.own 6 0),(7,.own 7 0),(8,vb r1.2.1)] [(6,26,[vi 0,.str [],.val (.slice none 0 0),.val (.slice none 0 0)]),(7,50,l6 r1.1),(504000,50,[aK r1.2.2.f_l]),(1000000,46,aM 504000 r1.2.2)] ((rq n a1 h0 _ hr1)) (To.ah (Wp.seq (Wp.seq ?_)))
 obtain⟨x2,hx2,h⟩:=bI h
 refine Wp.eH hm hΓ [(33,vb (ft r1.1.av))] [0,6,51] [6,504000,1000000] (K':=[(0,.own 1000000 0),(6,.own 6 0),(51,vb (bif (!r1.2.1) then(bif (bif (bif (bif (!a2) then true else(r1.2.2.f_e != 0)) then true else(r1.2.2.aC==(List.length r1.2.2.f_l:Int))) then true else(r1.1.aH != a1)) then true else(!(ft r1.1.av))) else false))]) (L':=[(6,26,[vi 0,.str [],.val (.slice none 0 0),.val (.slice none 0 0)]),(504000,50,[aK r1.2.2.f_l]),(1000000,46,aM 504000 r1.2.2)]) (ob:=[((((bif (bif (bif (!a2) then true else(r1.2.2.f_e != 0)) then true else(r1.2.2.aC==(List.length r1.2.2.f_l:Int))) then true else(r1.1.aH != a1))==false)&&((!r1.2.1)==true))=true->CX Tryz.prog 14 [.str r1.1.av] (vb (ft r1.1.av)))]) (by kernel_rfl) (au.cons (fun _=>cx (pH r1.1.av _ rfl)) au.nil) (To.eq (K':=[(0,.own 1000000 0),(6,.own 6 0),(51,vb x2)]) (L':=[(6,26,[vi 0,.str [],.val (.slice none 0 0),.val (.slice none 0 0)]),(504000,50,[aK r1.2.2.f_l]),(1000000,46,aM 504000 r1.2.2)]) (by cases hx2;rfl) (by cases hx2;rfl) (To.ah (cn h (fun h=>?_) (fun h=>?_))))
 ·refine Wp.seq (rg [6] [6,504000,1000000] [(6,.own 6 0)] [(6,26,[vi 0,.str [],.val (.slice none 0 0),.val (.slice none 0 0)]),(504000,50,[aK r1.2.2.f_l]),(1000000,46,aM 504000 r1.2.2)] (To.ah (Wp.ret (To.aO (To.weak (K':=[(6,.own 6 0)]) (L':=[(6,26,[vi 0,.str [],ls [],tn4 []]),(504000,50,[aK r1.2.2.f_l]),(1000000,46,aM 504000 r1.2.2)]) (.cons (.refl _) .nil) (.cons (.cons (.refl _) (.cons (.refl _) (.cons (.zero _ _) (.cons (.ik _ _ _) .nil)))) (.cons (.cons (.refl _) .nil) (.cons (.cons (.refl _) (.cons (.refl _) (.cons (.refl _) (.cons (.refl _) .nil)))) .nil))) (To.pre (St.rename 504000 200 (by decide) (K':=[(6,.own 6 0)]) (L':=[(6,26,[vi 0,.str [],ls [],tn4 []]),(200,50,[aK r1.2.2.f_l]),(1000000,46,aM 200 r1.2.2)]) (by kernel_rfl) (by kernel_rfl) (by kernel_rfl)) ?_))))))
  cases h
  exact To.fl hΓ [200,1000000] (by kernel_rfl) (by kernel_rfl)
 ·refine Wp.skip (To.ah (Wp.seq ?_))
  obtain⟨r3,hr3,h⟩:=aF h
  refine rb [] 1 ⟨[(1000000,1000000),(1010000,504000)],[(200,504000),(1000000,1000000)],[.own 1000000 0],[(1000000,46,aM 1010000 r1.2.2),(1010000,50,[aK r1.2.2.f_l])],.agg (qc6 r3.1),[(200,50,[aK r3.2.f_l]),(1000000,46,aM 200 r3.2)]⟩ [6] [6,504000,1000000] [(6,.own 6 0)] [(6,26,qc6 r3.1),(504000,50,[aK r3.2.f_l]),(1000000,46,aM 504000 r3.2)] ((hR_block_reader_block__o0_s2 r1.2.2 _ hr3)) (To.ah (Wp.ret (nt [6] [6,504000,1000000] [(504000,200)] [6] [6,200,1000000] [(6,.own 6 0)] [(6,26,qc6 r3.1),(200,50,[aK r3.2.f_l]),(1000000,46,aM 200 r3.2)] ?_)))
  cases h
  exact To.fl hΓ [200,1000000] (by kernel_rfl) (by kernel_rfl)
def cy(R_block_reader_block__o0_s2:ak->Option (af×ak))(n:Nat)(v1:Int):Nat->af->af->ak->Option (Sum (af×af×ak) (af×ak))
 |0,_,_,_=>none
 |k+1,b4,b5,b1000000=>if(bif (b1000000.f_e==0) then(decide (b1000000.aC<(List.length b1000000.f_l:Int))) else false)=true then(if(decide (0<=b1000000.aC/\b1000000.aC<(List.length b1000000.f_l:Int)))=true then(if(decide ((((b1000000.f_l)[Int.toNat b1000000.aC]?.getD (ax.mk 0 0 [])).aH)>v1))=true then(aR (df (((b1000000.f_l)[Int.toNat b1000000.aC]?.getD (ax.mk 0 0 [])).eP) 3 b1000000) fun r1 =>
 some (.inr (r1.1,r1.2)))
 else(aR (ft (((b1000000.f_l)[Int.toNat b1000000.aC]?.getD (ax.mk 0 0 [])).av)) fun r2 =>
 aR ((bif (decide ((((b1000000.f_l)[Int.toNat b1000000.aC]?.getD (ax.mk 0 0 [])).aH)<v1)) then true else(!r2)):Bool) fun x3 =>
 if x3=true then(some (.inl (b4,b5,b1000000)))
 else(if((((b1000000.f_l)[Int.toNat b1000000.aC]?.getD (ax.mk 0 0 [])).av)==[45])=true then((eO R_block_reader_block__o0_s2 n v1 false (ak.mk b1000000.f_l (IntKind.wrap .i64 (b1000000.aC+1)) b1000000.mF b1000000.f_e)).bind fun r4 =>
 if(decide ((List.length b5.aj+List.length ([r4.1]:List (af)))*(72+1)<=limit))=true then(cy R_block_reader_block__o0_s2 n v1 k b4 (af.mk b5.aG b5.av b5.ay (b5.aj++([r4.1]:List (af)))) r4.2) else none)
 else((sR n ((b1000000.f_l)[Int.toNat b1000000.aC]?.getD (ax.mk 0 0 [])) 1).bind fun r6 =>
 if(decide (0<=b1000000.aC/\b1000000.aC<(List.length b1000000.f_l:Int)))=true then((R_block_reader_block__o0_s2 (ak.mk (List.set b1000000.f_l (Int.toNat b1000000.aC) r6) b1000000.aC b1000000.mF b1000000.f_e)).bind fun r7 =>
 if(decide ((List.length b5.aj+List.length ([r7.1]:List (af)))*(72+1)<=limit))=true then(cy R_block_reader_block__o0_s2 n v1 k b4 (af.mk b5.aG b5.av b5.ay (b5.aj++([r7.1]:List (af)))) r7.2) else none) else none)))) else none)
 else(some (.inl (b4,b5,b1000000)))
abbrev aQ(l:List (af)):D:=.aP false (α:=af) zx3 dV l
abbrev dO(l:List (af)):D:=.recs (α:=af) zx3 dV l
abbrev gu(k0:Nat)(x:af):List D:=[vi x.aG,.str x.av,ls x.ay,.row k0]
abbrev nK(x0:ak):Nat×Nat×List D:=(6,50,[vi (((x0.f_l)[Int.toNat x0.aC]?.getD gv).eP),vi (((x0.f_l)[Int.toNat x0.aC]?.getD gv).aH),.str (((x0.f_l)[Int.toNat x0.aC]?.getD gv).av)])
abbrev zW(x0:ak):Nat×Nat×List D:=(1000000,46,[.row 504000,vi (IntKind.wrap .i64 (x0.aC+1)),vi x0.mF,vi x0.f_e])
abbrev yh(x0:ak):=(decide (0<=x0.aC/\x0.aC<(List.length x0.f_l:Int)))
abbrev tW(x0:ak):Nat×Nat×List D:=(1000000,46,aM 1010000 x0)
abbrev uG(x0:ak):Nat×Nat×List D:=(1010000,50,[aK x0.f_l])
abbrev N1(x0:ak):Nat×Nat×List D:=(1000000,46,[.row 1010000,vi (IntKind.wrap .i64 (x0.aC+1)),vi x0.mF,vi x0.f_e])
abbrev QR(x0:ak):=(bif (x0.f_e==0) then(decide (x0.aC<(List.length x0.f_l:Int))) else false)
abbrev Nk(x0:ak)(x1:Int):=(decide ((((x0.f_l)[Int.toNat x0.aC]?.getD gv).aH)>x1))
abbrev NZ(x0:ak):=(ak.mk x0.f_l (IntKind.wrap .i64 (x0.aC+1)) x0.mF x0.f_e)
abbrev lY(x0:ak):=((x0.f_l)[Int.toNat x0.aC]?.getD gv)
theorem pR(R_block_reader_block__o0_s2:ak->Option (af×ak))(hR_block_reader_block__o0_s2:wV R_block_reader_block__o0_s2)(n:Nat)(v1:Int)(k:Nat):∀(b4:af)(b5:af)(b1000000:ak)(o:Sum (af×af×ak) (af×ak)),cy R_block_reader_block__o0_s2 n v1 k b4 b5 b1000000=some o->(Sum.elim (fun s=>To 93 F0 w0 [(4,.own 4 0),(5,.own 5 0)] [(4,26,qc6 s.1),(5,26,gu 4303 s.2.1),(4303,26,[aQ s.2.1.aj]),(504000,50,[aK s.2.2.f_l]),(1000000,46,aM 504000 s.2.2)] (.exit 0) Q) (fun s=>To 93 F0 w0 [(4,.own 4 0)] [(4,26,qc6 s.1),(504000,50,[aK s.2.f_l]),(1000000,46,aM 504000 s.2)] .ret Q)) o->WL Tryz.prog 93 F0 w0 [(0,.own 1000000 0),(1,vi v1),(4,.own 4 0),(5,.own 5 0)] [(4,26,qc6 b4),(5,26,gu 4303 b5),(4303,26,[aQ b5.aj]),(fq b1000000),(iC b1000000)] (cI (cI (cA (cB (cB (cI (cB (cF Tryz.f55)))))))) Q:=by
 induction k with
 |zero=>intro b4 b5 b1000000 o h;cases h
 |succ k ih =>
  intro b4 b5 b1000000 o h hQ
  rw[cy] at h
  refine WL.round (Wp.seq (Wp.seq (Wp.eH hm hΓ [] [0,1,4,5,24] [4,5,4303,504000,1000000] (K':=[(0,.own 1000000 0),(1,vi v1),(4,.own 4 0),(5,.own 5 0),(24,vb (QR b1000000))]) (L':=[(4,26,qc6 b4),(5,26,gu 4303 b5),(4303,26,[aQ b5.aj]),(fq b1000000),(iC b1000000)]) (ob:=[]) (by kernel_rfl) au.nil (To.ah (cn h (fun h=>?_) (fun h=>?_))))))
  ·refine Wp.skip (To.ah (Wp.block (Wp.seq ?_)))
   obtain⟨hc10,h⟩:=aL h
   refine Wp.eH hm hΓ [] [0,1,4,5,6] [4,5,6,4303,504000,1000000] (K':=[(0,.own 1000000 0),(1,vi v1),(4,.own 4 0),(5,.own 5 0),(6,.own 6 0)]) (L':=[(4,26,qc6 b4),(5,26,gu 4303 b5),(nK b1000000),(4303,26,[aQ b5.aj]),(fq b1000000),(iC b1000000)]) (ob:=[(yh b1000000)=true,(yh b1000000)=true]) (by kernel_rfl) (au.cons hc10 (au.cons hc10 au.nil)) (To.ah (Wp.block (Wp.seq (rg [0,1,4,5,6,53] [4,5,6,4303,504000,1000000] [(0,.own 1000000 0),(1,vi v1),(4,.own 4 0),(5,.own 5 0),(6,.own 6 0),(53,vb (Nk b1000000 v1))] [(4,26,qc6 b4),(5,26,gu 4303 b5),(nK b1000000),(4303,26,[aQ b5.aj]),(fq b1000000),(iC b1000000)] (To.ah (cn h (fun h=>?_) (fun h=>?_)))))))
   ·refine Wp.seq ?_
    obtain⟨r1,hr1,h⟩:=bI h
    refine rb [] 3 ⟨[(1000000,1000000),(1010000,504000)],[(200,504000),(1000000,1000000)],[.own 1000000 0,vi ((lY b1000000).eP),vi 3],[(tW b1000000),(uG b1000000)],.agg (qc6 r1.1),[(200,50,[aK r1.2.f_l]),(1000000,46,aM 200 r1.2)]⟩ [4] [4,504000,1000000] [(4,.own 4 0)] [(4,26,qc6 r1.1),(504000,50,[aK r1.2.f_l]),(1000000,46,aM 504000 r1.2)] ((fu ((lY b1000000).eP) 3 b1000000 _ hr1)) (To.ah (Wp.ret (To.aU (To.aU (To.aO ?_)))))
    cases h
    exact hQ
   ·refine Wp.seq ?_
    obtain⟨r2,hr2,h⟩:=bI h
    obtain⟨x3,hx3,h⟩:=bI h
    refine rr [] [(7,vb r2)] [] [0,1,4,5,6,62] [4,5,6,4303,504000,1000000] [(0,.own 1000000 0),(1,vi v1),(4,.own 4 0),(5,.own 5 0),(6,.own 6 0),(62,vb (bif (decide (((lY b1000000).aH)<v1)) then true else(!r2)))] [(4,26,qc6 b4),(5,26,gu 4303 b5),(nK b1000000),(4303,26,[aQ b5.aj]),(fq b1000000),(iC b1000000)] [(((decide (((lY b1000000).aH)<v1))==false)=true->CX Tryz.prog 14 [.str ((lY b1000000).av)] (vb r2))] (au.cons (fun _=>cx (pH ((lY b1000000).av) _ hr2)) au.nil) (To.eq (K':=[(0,.own 1000000 0),(1,vi v1),(4,.own 4 0),(5,.own 5 0),(6,.own 6 0),(62,vb x3)]) (L':=[(4,26,qc6 b4),(5,26,gu 4303 b5),(nK b1000000),(4303,26,[aQ b5.aj]),(fq b1000000),(iC b1000000)]) (by cases hx3;rfl) (by cases hx3;rfl) (To.ah (cn h (fun h=>?_) (fun h=>?_))))
    ·refine Wp.exit (To.xZ (by decide) (To.xZ (by decide) (To.dE (kt [4,5] [4,5,4303,504000,1000000] [(4,.own 4 0),(5,.own 5 0)] [(4,26,qc6 b4),(5,26,gu 4303 b5),(4303,26,[aQ b5.aj]),(fq b1000000),(iC b1000000)] ?_))))
     cases h
     exact hQ
    ·refine Wp.seq (rg [0,1,4,5,6,73] [4,5,6,4303,504000,1000000] [(0,.own 1000000 0),(1,vi v1),(4,.own 4 0),(5,.own 5 0),(6,.own 6 0),(73,vb (((lY b1000000).av)==[45]))] [(4,26,qc6 b4),(5,26,gu 4303 b5),(nK b1000000),(4303,26,[aQ b5.aj]),(fq b1000000),(iC b1000000)] (To.ah (cn h (fun h=>?_) (fun h=>?_))))
     ·refine Wp.seq (rg [0,1,4,5] [4,5,4303,504000,1000000] [(0,.own 1000000 0),(1,vi v1),(4,.own 4 0),(5,.own 5 0)] [(4,26,qc6 b4),(5,26,gu 4303 b5),(4303,26,[aQ b5.aj]),(fq b1000000),(zW b1000000)] (To.ah ?_))
      obtain⟨r4,hr4,h⟩:=aF h
      obtain⟨hc5,h⟩:=aL h
      refine Wp.sK hm hΓ [] [(5,dO [r4.1]),(6,dO (b5.aj++([r4.1]:List (af))))] [(4,⟨[(1000000,1000000),(1010000,504000)],[(200,504000),(1000000,1000000)],[.own 1000000 0,vi v1,vb false],[(N1 b1000000),(uG b1000000)],.agg (qc6 r4.1),[(200,50,[aK r4.2.f_l]),(1000000,46,aM 200 r4.2)]⟩)] [0,1,4,5,84,85,86,87,88,89,90,91] [4,5,89,90,4303,504000,1000000] [0,1,4,5] [4,5,90,504000,1000000] (K':=[(0,.own 1000000 0),(1,vi v1),(4,.own 4 0),(5,.own 5 0)]) (L':=[(4,26,qc6 b4),(5,26,gu 90 b5),(90,26,[aQ (b5.aj++([r4.1]:List (af)))]),(504000,50,[aK r4.2.f_l]),(1000000,46,aM 504000 r4.2)]) (ob:=[rO (aZ Tryz.prog) 86 [.own 1000000 0,vi v1,vb false] [some (46,[.row 504000,vi (IntKind.wrap .i64 (b1000000.aC+1)),vi b1000000.mF,vi b1000000.f_e]),some (50,[aK b1000000.f_l])] ⟨[(1000000,1000000),(1010000,504000)],[(200,504000),(1000000,1000000)],[.own 1000000 0,vi v1,vb false],[(N1 b1000000),(uG b1000000)],.agg (qc6 r4.1),[(200,50,[aK r4.2.f_l]),(1000000,46,aM 200 r4.2)]⟩,(fD 4 (qc6 r4.1) 1 (dO [r4.1])/\aX (dO [r4.1])),(decide ((List.length b5.aj+List.length ([r4.1]:List (af)))*(72+1)<=limit))=true,(iN zx3 dV b5.aj (List.flatMap dV ([r4.1]:List (af))) (List.length ([r4.1]:List (af))) (dO (b5.aj++([r4.1]:List (af))))/\aX (dO (b5.aj++([r4.1]:List (af)))))]) (by kernel_rfl) (by kernel_rfl) (au.cons (⟨(kS R_block_reader_block__o0_s2 hR_block_reader_block__o0_s2 n v1 false (NZ b1000000) _ hr4),by kernel_rfl,by kernel_rfl⟩) (au.cons (jN (by kernel_rfl) rfl (by kernel_rfl) (bU _)) (au.cons hc5 (au.cons (iP rfl rfl (bU _)) au.nil)))) ?_
      refine To.bf (To.bf (nt [0,1,4,5] [4,5,90,504000,1000000] [(90,4303)] [0,1,4,5] [4,5,4303,504000,1000000] [(0,.own 1000000 0),(1,vi v1),(4,.own 4 0),(5,.own 5 0)] [(4,26,qc6 b4),(5,26,gu 4303 b5),(4303,26,[aQ (b5.aj++([r4.1]:List (af)))]),(504000,50,[aK r4.2.f_l]),(1000000,46,aM 504000 r4.2)] (To.again ?_)))
      exact ih b4 (af.mk b5.aG b5.av b5.ay (b5.aj++([r4.1]:List (af)))) r4.2 _ h hQ
     ·refine Wp.seq ?_
      obtain⟨r6,hr6,h⟩:=aF h
      obtain⟨hc9,h⟩:=aL h
      refine Wp.Pg hm hΓ 10 [] [(9,.agg (l6 r6)),(11,xT (List.set b1000000.f_l (Int.toNat b1000000.aC) r6))] [] [0,1,4,5] [4,5,4303,504000,1000000] (K':=[(0,.own 1000000 0),(1,vi v1),(4,.own 4 0),(5,.own 5 0)]) (L':=[(4,26,qc6 b4),(5,26,gu 4303 b5),(4303,26,[aQ b5.aj]),(504000,50,[aK (List.set b1000000.f_l (Int.toNat b1000000.aC) r6)]),(iC b1000000)]) (ob:=[(true=true->CX Tryz.prog 87 [.agg [vi ((lY b1000000).eP),vi ((lY b1000000).aH),.str ((lY b1000000).av)],vi 1] (.agg (l6 r6))),(yh b1000000)=true,(yh b1000000)=true,EH gv lV b1000000.f_l b1000000.aC 0 (l6 r6) (xT (List.set b1000000.f_l (Int.toNat b1000000.aC) r6))]) (by kernel_rfl) (au.cons (fun _=>cx (He n (lY b1000000) 1 _ hr6)) (au.cons hc9 (au.cons hc9 (au.cons (RJ (by kernel_rfl)) au.nil)))) (To.ah ?_)
      obtain⟨r7,hr7,h⟩:=aF h
      obtain⟨hc8,h⟩:=aL h
      refine Wp.sK hm hΓ [] [(4,dO [r7.1]),(5,dO (b5.aj++([r7.1]:List (af))))] [(3,⟨[(1000000,1000000),(1010000,504000)],[(200,504000),(1000000,1000000)],[.own 1000000 0],[(tW b1000000),(1010000,50,[aK (List.set b1000000.f_l (Int.toNat b1000000.aC) r6)])],.agg (qc6 r7.1),[(200,50,[aK r7.2.f_l]),(1000000,46,aM 200 r7.2)]⟩)] [0,1,4,5,46,47,48,49,50,51,52] [4,5,50,51,4303,504000,1000000] [0,1,4,5] [4,5,51,504000,1000000] (K':=[(0,.own 1000000 0),(1,vi v1),(4,.own 4 0),(5,.own 5 0)]) (L':=[(4,26,qc6 b4),(5,26,gu 51 b5),(51,26,[aQ (b5.aj++([r7.1]:List (af)))]),(504000,50,[aK r7.2.f_l]),(1000000,46,aM 504000 r7.2)]) (ob:=[rO (aZ Tryz.prog) 24 [.own 1000000 0] [some (46,aM 504000 b1000000),some (50,[aK (List.set b1000000.f_l (Int.toNat b1000000.aC) r6)])] ⟨[(1000000,1000000),(1010000,504000)],[(200,504000),(1000000,1000000)],[.own 1000000 0],[(tW b1000000),(1010000,50,[aK (List.set b1000000.f_l (Int.toNat b1000000.aC) r6)])],.agg (qc6 r7.1),[(200,50,[aK r7.2.f_l]),(1000000,46,aM 200 r7.2)]⟩,(fD 4 (qc6 r7.1) 1 (dO [r7.1])/\aX (dO [r7.1])),(decide ((List.length b5.aj+List.length ([r7.1]:List (af)))*(72+1)<=limit))=true,(iN zx3 dV b5.aj (List.flatMap dV ([r7.1]:List (af))) (List.length ([r7.1]:List (af))) (dO (b5.aj++([r7.1]:List (af))))/\aX (dO (b5.aj++([r7.1]:List (af)))))]) (by kernel_rfl) (by kernel_rfl) (au.cons (⟨(hR_block_reader_block__o0_s2 (ak.mk (List.set b1000000.f_l (Int.toNat b1000000.aC) r6) b1000000.aC b1000000.mF b1000000.f_e) _ hr7),by kernel_rfl,by kernel_rfl⟩) (au.cons (jN (by kernel_rfl) rfl (by kernel_rfl) (bU _)) (au.cons hc8 (au.cons (iP rfl rfl (bU _)) au.nil)))) ?_
      refine To.bf (To.bf (nt [0,1,4,5] [4,5,51,504000,1000000] [(51,4303)] [0,1,4,5] [4,5,4303,504000,1000000] [(0,.own 1000000 0),(1,vi v1),(4,.own 4 0),(5,.own 5 0)] [(4,26,qc6 b4),(5,26,gu 4303 b5),(4303,26,[aQ (b5.aj++([r7.1]:List (af)))]),(504000,50,[aK r7.2.f_l]),(1000000,46,aM 504000 r7.2)] (To.again ?_)))
      exact ih b4 (af.mk b5.aG b5.av b5.ay (b5.aj++([r7.1]:List (af)))) r7.2 _ h hQ
  ·refine Wp.exit (To.dE (To.dE (kt [4,5] [4,5,4303,504000,1000000] [(4,.own 4 0),(5,.own 5 0)] [(4,26,qc6 b4),(5,26,gu 4303 b5),(4303,26,[aQ b5.aj]),(fq b1000000),(iC b1000000)] ?_)))
   cases h
   exact hQ
def i7(R_block_reader_block__o0_s2:ak->Option (af×ak))(n:Nat)(a1:Int)(h0:ak):Option (af×ak) :=
 (cy R_block_reader_block__o0_s2 n a1 n (af.mk 0 [] [] []) (af.mk 2 [] [] []) h0).bind fun o1 =>
 (Sum.elim (fun o1=>some (o1.2.1,o1.2.2)) (fun o1=>some (o1.1,o1.2))) o1
abbrev rK(l:List (af)):D:=.aP true (α:=af) zx3 dV l
abbrev JR(x:af):List D:=[vi x.aG,.str x.av,ls x.ay,dO x.aj]
theorem rJ(R_block_reader_block__o0_s2:ak->Option (af×ak))(hR_block_reader_block__o0_s2:wV R_block_reader_block__o0_s2)(n:Nat)(a1:Int)(h0:ak)(r:af×ak)(h:i7 R_block_reader_block__o0_s2 n a1 h0=some r):aZ Tryz.prog 55 [.own 1000000 0,vi a1] [(1000000,46,aM 1010000 h0),(1010000,50,[aK h0.f_l])] (.agg (qc6 r.1)) [(200,50,[aK r.2.f_l]),(1000000,46,aM 200 r.2)]:=by
 unfold i7 at h
 refine bo Tryz.f55 rfl fun F0 w0=>?_
 refine nw [0,1] [1000000,1010000] [(1010000,504000)] [0,1] [504000,1000000] [(0,.own 1000000 0),(1,vi a1)] [(504000,50,[aK h0.f_l]),(1000000,46,aM 504000 h0)] (Wp.seq (rg [0,1,4] [4,504000,1000000] [(0,.own 1000000 0),(1,vi a1),(4,.own 4 0)] [(4,26,[vi 0,.str [],.val (.slice none 0 0),.val (.slice none 0 0)]),(504000,50,[aK h0.f_l]),(1000000,46,aM 504000 h0)] (To.ah (Wp.scope (Wp.seq (rg [0,1,4,5] [4,5,504000,1000000] [(0,.own 1000000 0),(1,vi a1),(4,.own 4 0),(5,.own 5 0)] [(4,26,[vi 0,.str [],.val (.slice none 0 0),.val (.slice none 0 0)]),(5,26,[vi 2,.str [],.val (.slice none 0 0),.val (.slice none 0 0)]),(504000,50,[aK h0.f_l]),(1000000,46,aM 504000 h0)] (To.ah (Wp.seq (Wp.label (To.ah (Wp.seq (Wp.block ?_))))))))))))
 obtain⟨o1,ho1,h⟩:=aF h
 refine kw [0,1,4,5] [4,5,504000,1000000] [(0,.own 1000000 0),(1,vi a1),(4,.own 4 0),(5,.own 5 0)] [(4,26,[vi 0,.str [],.val (.slice none 0 0),.val (.slice none 0 0)]),(5,26,[vi 2,.str [],.val (.slice none 0 0),.val (.slice none 0 0)]),(504000,50,[aK h0.f_l]),(1000000,46,aM 504000 h0)] (Wp.pre (St.nj 5 3 4303 26 (bU _) (by decide) (by kernel_rfl) (L':=[(4,26,[vi 0,.str [],.val (.slice none 0 0),.val (.slice none 0 0)]),(5,26,[vi 2,.str [],.val (.slice none 0 0),.row 4303]),(504000,50,[aK h0.f_l]),(1000000,46,aM 504000 h0)]) (by kernel_rfl)) (kw [0,1,4,5] [4,5,4303,504000,1000000] [(0,.own 1000000 0),(1,vi a1),(4,.own 4 0),(5,.own 5 0)] [(4,26,[vi 0,.str [],.val (.slice none 0 0),.val (.slice none 0 0)]),(5,26,[vi 2,.str [],.val (.slice none 0 0),.row 4303]),(4303,26,[aQ []]),(504000,50,[aK h0.f_l]),(1000000,46,aM 504000 h0)] (Wp.weak (K':=[(0,.own 1000000 0),(1,vi a1),(4,.own 4 0),(5,.own 5 0)]) (L':=[(4,26,[vi 0,.str [],ls [],tn4 []]),(5,26,[vi 2,.str [],ls [],.row 4303]),(4303,26,[aQ []]),(504000,50,[aK h0.f_l]),(1000000,46,aM 504000 h0)]) (.cons (.refl _) (.cons (.refl _) (.cons (.refl _) (.cons (.refl _) .nil)))) (.cons (.cons (.refl _) (.cons (.refl _) (.cons (.zero _ _) (.cons (.ik _ _ _) .nil)))) (.cons (.cons (.refl _) (.cons (.refl _) (.cons (.zero _ _) (.cons (.refl _) .nil)))) (.cons (.cons (.refl _) .nil) (.cons (.cons (.refl _) .nil) (.cons (.cons (.refl _) (.cons (.refl _) (.cons (.refl _) (.cons (.refl _) .nil)))) .nil))))) (Wp.jB (pR R_block_reader_block__o0_s2 hR_block_reader_block__o0_s2 n a1 n zx3 (af.mk 2 [] [] []) h0 o1 ho1 ?_)))))
 rcases o1 with o1|o1
 ·replace h:=iU h
  refine To.iI (To.ah (Wp.seq (rg [4] [4,4303,504000,1000000] [(4,.own 4 0)] [(4,26,gu 4303 o1.2.1),(4303,26,[aQ o1.2.1.aj]),(504000,50,[aK o1.2.2.f_l]),(1000000,46,aM 504000 o1.2.2)] (To.ah (Wp.ret (To.scope (.inr (.inl rfl)) (kt [4] [4,4303,504000,1000000] [(4,.own 4 0)] [(4,26,gu 4303 o1.2.1),(4303,26,[aQ o1.2.1.aj]),(504000,50,[aK o1.2.2.f_l]),(1000000,46,aM 504000 o1.2.2)] (To.pre (St.settle (ks:=[4303]) (kk:=[4]) (kl:=[4,4303,504000,1000000]) (K':=[(4,.own 4 0)]) (L':=[(4,26,gu 4303 o1.2.1),(4303,26,[rK o1.2.1.aj]),(504000,50,[aK o1.2.2.f_l]),(1000000,46,aM 504000 o1.2.2)]) (by kernel_rfl)) (To.pre (St.EK [4] (L':=[(4,26,JR o1.2.1),(4303,26,[rK o1.2.1.aj]),(504000,50,[aK o1.2.2.f_l]),(1000000,46,aM 504000 o1.2.2)]) (by kernel_rfl)) (To.weak (K':=[(4,.own 4 0)]) (L':=[(4,26,qc6 o1.2.1),(4303,26,[rK o1.2.1.aj]),(504000,50,[aK o1.2.2.f_l]),(1000000,46,aM 504000 o1.2.2)]) (.cons (.refl _) .nil) (.cons (.cons (.refl _) (.cons (.refl _) (.cons (.refl _) (.cons (.close _ _ _ _) .nil)))) (.cons (.cons (.refl _) .nil) (.cons (.cons (.refl _) .nil) (.cons (.cons (.refl _) (.cons (.refl _) (.cons (.refl _) (.cons (.refl _) .nil)))) .nil)))) ?_))))))))))
  refine nt [4] [4,504000,1000000] [(504000,200)] [4] [4,200,1000000] [(4,.own 4 0)] [(4,26,qc6 o1.2.1),(200,50,[aK o1.2.2.f_l]),(1000000,46,aM 200 o1.2.2)] ?_
  cases h
  exact To.fl hΓ [200,1000000] (by kernel_rfl) (by kernel_rfl)
 ·replace h:=iV h
  refine To.aU (To.aO (To.scope (.inr (.inl rfl)) (nt [4] [4,504000,1000000] [(504000,200)] [4] [4,200,1000000] [(4,.own 4 0)] [(4,26,qc6 o1.1),(200,50,[aK o1.2.f_l]),(1000000,46,aM 200 o1.2)] ?_)))
  cases h
  exact To.fl hΓ [200,1000000] (by kernel_rfl) (by kernel_rfl)
def dC(n:Nat)(v0:Ls)(v1:Bs)(v7:Int):Nat->Int->Option (Sum (Unit) (Int))
 |0,_=>none
 |k+1,v8=>if(decide (v8<v7))=true then(if(decide (0<=v8/\v8<(List.length v0:Int)))=true then(if(v1==((v0)[Int.toNat v8]?.getD []))=true then(some (.inr v8))
 else(dC n v0 v1 v7 k (IntKind.wrap .i64 (v8+1)))) else none)
 else(some (.inl ()))
theorem oa(n:Nat)(v0:Ls)(v1:Bs)(v7:Int)(k:Nat):∀(v8:Int)(o:Sum (Unit) (Int)),dC n v0 v1 v7 k v8=some o->(Sum.elim (fun s=>To 19 F0 w0 [] [] (.exit 0) Q) (fun s=>To 19 F0 w0 [(4,vi s)] [] .ret Q)) o->WL Tryz.prog 19 F0 w0 [(0,ls v0),(1,.str v1),(7,vi v7),(8,vi v8)] [] (cI (cI (cB (cA (cB (cF Tryz.f125)))))) Q:=by
 induction k with
 |zero=>intro v8 o h;cases h
 |succ k ih =>
  intro v8 o h hQ
  rw[dC] at h
  refine WL.round (Wp.seq (rg [0,1,7,8,9] [] [(0,ls v0),(1,.str v1),(7,vi v7),(8,vi v8),(9,vb (decide (v8<v7)))] [] (To.ah (Wp.seq (cn h (fun h=>?_) (fun h=>?_))))))
  ·refine Wp.skip (To.ah (Wp.seq (Wp.block (Wp.seq (rg [0,1,5,7,8] [] [(0,ls v0),(1,.str v1),(5,vi v8),(7,vi v7),(8,vi v8)] [] (To.ah (Wp.seq ?_)))))))
   obtain⟨hc1,h⟩:=aL h
   refine r0 [0,1,5,7,8,16] [] [(0,ls v0),(1,.str v1),(5,vi v8),(7,vi v7),(8,vi v8),(16,vb (v1==((v0)[Int.toNat v8]?.getD [])))] [] (au.cons hc1 au.nil) (To.ah (cn h (fun h=>?_) (fun h=>?_)))
   ·refine Wp.seq (rg [4] [] [(4,vi v8)] [] (To.ah (Wp.ret (To.aU (To.aO (To.aO ?_))))))
    cases h
    exact hQ
   ·refine Wp.skip (To.bf (To.ah (rg [0,1,7,8] [] [(0,ls v0),(1,.str v1),(7,vi v7),(8,vi (IntKind.wrap .i64 (v8+1)))] [] (kt [0,1,7,8] [] [(0,ls v0),(1,.str v1),(7,vi v7),(8,vi (IntKind.wrap .i64 (v8+1)))] [] (To.again ?_)))))
    exact ih (IntKind.wrap .i64 (v8+1)) _ h hQ
  ·refine Wp.exit (To.dE (To.dE (kt [] [] [] [] ?_)))
   cases h
   exact hQ
def iD(n:Nat)(a0:Ls)(a1:Bs):Option (Int) :=
 (dC n a0 a1 (List.length a0:Int) n 0).bind fun o1 =>
 (Sum.elim (fun o1=>some (-1)) (fun o1=>some o1)) o1
theorem pT(n:Nat)(a0:Ls)(a1:Bs)(r:Int)(h:iD n a0 a1=some r):bg Tryz.prog 125 [ls a0,.str a1] (vi r):=by
 unfold iD at h
 refine xo Tryz.f125 rfl fun F0 w0 _=>?_
 refine Wp.seq (rg [0,1] [] [(0,ls a0),(1,.str a1)] [] (To.ah (Wp.seq (Wp.seq (rg [0,1,7,8] [] [(0,ls a0),(1,.str a1),(7,vi (List.length a0:Int)),(8,vi 0)] [] (To.ah (Wp.block ?_)))))))
 obtain⟨o1,ho1,h⟩:=aF h
 refine kw [0,1,7,8] [] [(0,ls a0),(1,.str a1),(7,vi (List.length a0:Int)),(8,vi 0)] [] (Wp.jB (oa n a0 a1 (List.length a0:Int) n 0 o1 ho1 ?_))
 rcases o1 with o1|o1
 ·replace h:=iU h
  refine To.iI (To.ah (Wp.seq (rg [4] [] [(4,vi (-1))] [] (To.ah (Wp.ret ?_)))))
  cases h
  exact To.done hΓ (by kernel_rfl)
 ·replace h:=iV h
  refine To.aU (To.aO ?_)
  cases h
  exact To.done hΓ (by kernel_rfl)
def fY(n:Nat)(a0:Ls)(a1:Bs):Option (Bool) :=
 (iD n a0 a1).bind fun r1 =>
 some (decide (r1>=0))
theorem ot(n:Nat)(a0:Ls)(a1:Bs)(r:Bool)(h:fY n a0 a1=some r):bg Tryz.prog 110 [ls a0,.str a1] (vb r):=by
 unfold fY at h
 refine xo Tryz.f110 rfl fun F0 w0 _=>?_
 refine Wp.seq (rg [0,1] [] [(0,ls a0),(1,.str a1)] [] (To.ah (Wp.seq ?_)))
 obtain⟨r1,hr1,h⟩:=aF h
 refine rc [] 2 [4] [] [(4,vb (decide (r1>=0)))] [] (pT n a0 a1 _ hr1) (To.ah (Wp.ret ?_))
 cases h
 exact To.done hΓ (by kernel_rfl)
def oJ(n:Nat)(a0:Ls)(a1:Bs):Option (Bool) :=
 (fY n a0 a1).bind fun r1 =>
 some r1
theorem IW(n:Nat)(a0:Ls)(a1:Bs)(r:Bool)(h:oJ n a0 a1=some r):bg Tryz.prog 88 [ls a0,.str a1] (vb r):=by
 unfold oJ at h
 refine xo Tryz.f88 rfl fun F0 w0 _=>?_
 refine Wp.seq (rg [0,1] [] [(0,ls a0),(1,.str a1)] [] (To.ah (Wp.seq ?_)))
 obtain⟨r1,hr1,h⟩:=aF h
 refine rc [] 2 [4] [] [(4,vb r1)] [] (ot n a0 a1 _ hr1) (To.ah (Wp.ret ?_))
 cases h
 exact To.done hΓ (by kernel_rfl)
def qV(a0:Bs):af :=
 (af.mk 1 a0 [] [])
theorem sZ(a0:Bs)(r:af)(h:qV a0=r):bg Tryz.prog 111 [.str a0] (.agg (qc6 r)):=by
 unfold qV at h
 refine xo Tryz.f111 rfl fun F0 w0 _=>?_
 refine Wp.seq (rg [0,2] [2] [(0,.str a0),(2,.own 2 0)] [(2,26,[vi 0,.str [],.val (.slice none 0 0),.val (.slice none 0 0)])] (To.ah (Wp.seq (rg [2] [2] [(2,.own 2 0)] [(2,26,[vi 1,.str a0,.val (.slice none 0 0),.val (.slice none 0 0)])] (To.ah (Wp.ret (To.weak (K':=[(2,.own 2 0)]) (L':=[(2,26,[vi 1,.str a0,ls [],tn4 []])]) (.cons (.refl _) .nil) (.cons (.cons (.refl _) (.cons (.refl _) (.cons (.zero _ _) (.cons (.ik _ _ _) .nil)))) .nil) ?_)))))))
 cases h
 exact To.done hΓ (by kernel_rfl)
def kP(n:Nat)(v0:Bs)(v5:Int):Nat->Int->Option (Sum (Unit) (Bool))
 |0,_=>none
 |k+1,v6=>if(decide (v6<v5))=true then(if(decide (0<=v6/\v6<(List.length v0:Int)))=true then(aR ((decide ((Lib.indexByte ([44,91,93,123,125]:Bs) (Int.toNat (((v0)[Int.toNat v6]?.getD 0).toNat:Int)).toUInt8)>=0)):Bool) fun x1 =>
 if x1=true then(some (.inr false))
 else(kP n v0 v5 k (IntKind.wrap .i64 (v6+1)))) else none)
 else(some (.inl ()))
abbrev M8(x0:Bs)(x1:Int):=(Lib.indexByte ([44,91,93,123,125]:Bs) (Int.toNat (ex7 x0 x1)).toUInt8)
theorem Bv(n:Nat)(v0:Bs)(v5:Int)(k:Nat):∀(v6:Int)(o:Sum (Unit) (Bool)),kP n v0 v5 k v6=some o->(Sum.elim (fun s=>To 17 F0 w0 [(0,.str v0)] [] (.exit 0) Q) (fun s=>To 17 F0 w0 [(2,vb s)] [] .ret Q)) o->WL Tryz.prog 17 F0 w0 [(0,.str v0),(5,vi v5),(6,vi v6)] [] (cI (cI (cB (cA (cB (cF Tryz.f83)))))) Q:=by
 induction k with
 |zero=>intro v6 o h;cases h
 |succ k ih =>
  intro v6 o h hQ
  rw[kP] at h
  refine WL.round (Wp.seq (rg [0,5,6,7] [] [(0,.str v0),(5,vi v5),(6,vi v6),(7,vb (decide (v6<v5)))] [] (To.ah (Wp.seq (cn h (fun h=>?_) (fun h=>?_))))))
  ·refine Wp.skip (To.ah (Wp.seq (Wp.block (Wp.seq (rg [0,3,5,6] [] [(0,.str v0),(3,vi v6),(5,vi v5),(6,vi v6)] [] (To.ah (Wp.seq ?_)))))))
   obtain⟨hc2,h⟩:=aL h
   obtain⟨x1,hx1,h⟩:=bI h
   refine rr [] [(3,vi (M8 v0 v6))] [] [0,5,6,13] [] [(0,.str v0),(5,vi v5),(6,vi v6),(13,vb (decide ((M8 v0 v6)>=0)))] [] [_,(true=true->CX Tryz.prog 66 [.str [44,91,93,123,125],.val (.int .u8 (ex7 v0 v6))] (vi (M8 v0 v6)))] (au.cons hc2 (au.cons (fun _=>cx (Sh.lN)) au.nil)) (To.eq (K':=[(0,.str v0),(5,vi v5),(6,vi v6),(13,vb x1)]) (L':=[]) (by cases hx1;rfl) (by cases hx1;rfl) (To.ah (cn h (fun h=>?_) (fun h=>?_))))
   ·refine Wp.seq (rg [2] [] [(2,vb false)] [] (To.ah (Wp.ret (To.aU (To.aO (To.aO ?_))))))
    cases h
    exact hQ
   ·refine Wp.skip (To.bf (To.ah (rg [0,5,6] [] [(0,.str v0),(5,vi v5),(6,vi (IntKind.wrap .i64 (v6+1)))] [] (kt [0,5,6] [] [(0,.str v0),(5,vi v5),(6,vi (IntKind.wrap .i64 (v6+1)))] [] (To.again ?_)))))
    exact ih (IntKind.wrap .i64 (v6+1)) _ h hQ
  ·refine Wp.exit (To.dE (To.dE (kt [0] [] [(0,.str v0)] [] ?_)))
   cases h
   exact hQ
def kU(n:Nat)(a0:Bs):Option (Bool) :=
 (kP n a0 (List.length a0:Int) n 0).bind fun o1 =>
 (Sum.elim (fun o1=>(iz n a0).bind fun r2 =>
 some r2) (fun o1=>some o1)) o1
theorem tq(n:Nat)(a0:Bs)(r:Bool)(h:kU n a0=some r):bg Tryz.prog 83 [.str a0] (vb r):=by
 unfold kU at h
 refine xo Tryz.f83 rfl fun F0 w0 _=>?_
 refine Wp.seq (rg [0] [] [(0,.str a0)] [] (To.ah (Wp.seq (Wp.seq (rg [0,5,6] [] [(0,.str a0),(5,vi (List.length a0:Int)),(6,vi 0)] [] (To.ah (Wp.block ?_)))))))
 obtain⟨o1,ho1,h⟩:=aF h
 refine kw [0,5,6] [] [(0,.str a0),(5,vi (List.length a0:Int)),(6,vi 0)] [] (Wp.jB (Bv n a0 (List.length a0:Int) n 0 o1 ho1 ?_))
 rcases o1 with o1|o1
 ·replace h:=iU h
  refine To.iI (To.ah (Wp.seq ?_))
  obtain⟨r2,hr2,h⟩:=aF h
  refine rc [] 1 [2] [] [(2,vb r2)] [] (nh n a0 _ hr2) (To.ah (Wp.ret ?_))
  cases h
  exact To.done hΓ (by kernel_rfl)
 ·replace h:=iV h
  refine To.aU (To.aO ?_)
  cases h
  exact To.done hΓ (by kernel_rfl)
def dN(n:Nat)(a0:Bs)(a1:Bool):Option (af×Int) :=
 if(bif (bif (a0==[]) then true else(a0==[126])) then true else(a0==rM))=true then(some ((af.mk 0 [] [] []),0))
 else(if(decide (0<=(0:Int)/\(0:Int)<(List.length a0:Int)))=true then(if((!(((((a0)[Int.toNat 0]?.getD 0).toNat:Int)==34)==false)||decide (0<=(0:Int)/\(0:Int)<(List.length a0:Int))))=true then(if(bif ((((a0)[Int.toNat 0]?.getD 0).toNat:Int)==34) then true else((((a0)[Int.toNat 0]?.getD 0).toNat:Int)==39))=true then((br n a0 0).bind fun r1 =>
 if(bif (r1.2.2 != 0) then true else(r1.2.1 != (List.length a0:Int)))=true then(some ((af.mk 0 [] [] []),3))
 else(aR (qV r1.1) fun r2 =>
 some (r2,0)))
 else(((if(a1==true)=true then kU n a0 else some false)).bind fun r3 =>
 ((if(((!a1)==true)&&((bif a1 then r3 else false)==false))=true then iz n a0 else some false)).bind fun r4 =>
 if(bif (bif a1 then r3 else false) then true else(bif (!a1) then r4 else false))=true then(aR (qV a0) fun r5 =>
 some (r5,0))
 else(some ((af.mk 0 [] [] []),3)))) else none) else none)
theorem u6(n:Nat)(a0:Bs)(a1:Bool)(r:af×Int)(h:dN n a0 a1=some r):bg Tryz.prog 89 [.str a0,vb a1] (.tup [.agg (qc6 r.1),vi r.2]):=by
 unfold dN at h
 refine xo Tryz.f89 rfl fun F0 w0 _=>?_
 refine Wp.seq (rg [0,1,4] [4] [(0,.str a0),(1,vb a1),(4,.own 4 0)] [(4,26,[vi 0,.str [],.val (.slice none 0 0),.val (.slice none 0 0)])] (To.ah (Wp.seq (Wp.block (Wp.seq (rg [0,1,4,9] [4] [(0,.str a0),(1,vb a1),(4,.own 4 0),(9,vb (Qq a0))] [(4,26,[vi 0,.str [],.val (.slice none 0 0),.val (.slice none 0 0)])] (To.ah (cn h (fun h=>?_) (fun h=>?_)))))))))
 ·refine Wp.seq (rg [4,5] [4] [(4,.own 4 0),(5,vi 0)] [(4,26,[vi 0,.str [],.val (.slice none 0 0),.val (.slice none 0 0)])] (To.ah (Wp.ret (To.aU (To.aO (To.weak (K':=[(4,.own 4 0),(5,vi 0)]) (L':=[(4,26,[vi 0,.str [],ls [],tn4 []])]) (.cons (.refl _) (.cons (.refl _) .nil)) (.cons (.cons (.refl _) (.cons (.refl _) (.cons (.zero _ _) (.cons (.ik _ _ _) .nil)))) .nil) ?_))))))
  cases h
  exact To.done hΓ (by kernel_rfl)
 ·refine Wp.seq ?_
  obtain⟨hc6,h⟩:=aL h
  obtain⟨hc7,h⟩:=aL h
  refine r0 [0,1,4,21] [4] [(0,.str a0),(1,vb a1),(4,.own 4 0),(21,vb (Jf a0))] [(4,26,[vi 0,.str [],.val (.slice none 0 0),.val (.slice none 0 0)])] (au.cons hc6 (au.cons hc7 au.nil)) (To.ah (cn h (fun h=>?_) (fun h=>?_)))
  ·refine Wp.seq ?_
   obtain⟨r1,hr1,h⟩:=aF h
   refine rc [] 1 [0,4,6,7,8] [4] [(0,.str a0),(4,.own 4 0),(6,.str r1.1),(7,vi r1.2.1),(8,vi r1.2.2)] [(4,26,[vi 0,.str [],.val (.slice none 0 0),.val (.slice none 0 0)])] (lL n a0 0 _ hr1) (To.ah (Wp.seq (Wp.seq (rg [4,6,43] [4] [(4,.own 4 0),(6,.str r1.1),(43,vb (bif (r1.2.2 != 0) then true else(r1.2.1 != (List.length a0:Int))))] [(4,26,[vi 0,.str [],.val (.slice none 0 0),.val (.slice none 0 0)])] (To.ah (cn h (fun h=>?_) (fun h=>?_)))))))
   ·refine Wp.seq (rg [4,5] [4] [(4,.own 4 0),(5,vi 3)] [(4,26,[vi 0,.str [],.val (.slice none 0 0),.val (.slice none 0 0)])] (To.ah (Wp.ret (To.aO (To.aU (To.aO (To.weak (K':=[(4,.own 4 0),(5,vi 3)]) (L':=[(4,26,[vi 0,.str [],ls [],tn4 []])]) (.cons (.refl _) (.cons (.refl _) .nil)) (.cons (.cons (.refl _) (.cons (.refl _) (.cons (.zero _ _) (.cons (.ik _ _ _) .nil)))) .nil) ?_)))))))
    cases h
    exact To.done hΓ (by kernel_rfl)
   ·refine Wp.skip (To.ah (Wp.seq ?_))
    obtain⟨r2,hr2,h⟩:=bI h
    refine rc [] 1 [4,5] [4] [(4,.own 4 0),(5,vi 0)] [(4,26,qc6 r2)] (sZ r1.1 _ hr2) (To.ah (Wp.ret (To.aU (To.aO ?_))))
    cases h
    exact To.done hΓ (by kernel_rfl)
  ·refine Wp.seq ?_
   obtain⟨r3,hr3,h⟩:=aF h
   obtain⟨r4,hr4,h⟩:=aF h
   refine rr [] [(3,vb r3),(10,vb r4)] [] [0,4,47] [4] [(0,.str a0),(4,.own 4 0),(47,vb (bif (bif a1 then r3 else false) then true else(bif (!a1) then r4 else false)))] [(4,26,[vi 0,.str [],.val (.slice none 0 0),.val (.slice none 0 0)])] [((a1==true)=true->CX Tryz.prog 83 [.str a0] (vb r3)),((((!a1)==true)&&((bif a1 then r3 else false)==false))=true->CX Tryz.prog 33 [.str a0] (vb r4))] (au.cons (fun hg=>cx (tq n a0 _ (jl hg hr3))) (au.cons (fun hg=>cx (nh n a0 _ (jl hg hr4))) au.nil)) (To.ah (cn h (fun h=>?_) (fun h=>?_)))
   ·refine Wp.seq ?_
    obtain⟨r5,hr5,h⟩:=bI h
    refine rc [] 1 [4,5] [4] [(4,.own 4 0),(5,vi 0)] [(4,26,qc6 r5)] (sZ a0 _ hr5) (To.ah (Wp.ret (To.aU (To.aO ?_))))
    cases h
    exact To.done hΓ (by kernel_rfl)
   ·refine Wp.skip (To.bf (To.ah (Wp.seq (rg [4,5] [4] [(4,.own 4 0),(5,vi 3)] [(4,26,[vi 0,.str [],.val (.slice none 0 0),.val (.slice none 0 0)])] (To.ah (Wp.ret (To.weak (K':=[(4,.own 4 0),(5,vi 3)]) (L':=[(4,26,[vi 0,.str [],ls [],tn4 []])]) (.cons (.refl _) (.cons (.refl _) .nil)) (.cons (.cons (.refl _) (.cons (.refl _) (.cons (.zero _ _) (.cons (.ik _ _ _) .nil)))) .nil) ?_)))))))
    cases h
    exact To.done hΓ (by kernel_rfl)
structure ai where
 f_s:Bs
 aC:Int
 bT:Bool
def fA(n:Nat):Nat->ai->Option (ai)
 |0,_=>none
 |k+1,b1000000=>if((!((decide (b1000000.aC<(List.length b1000000.f_s:Int)))==true)||decide (0<=b1000000.aC/\b1000000.aC<(List.length b1000000.f_s:Int))))=true then(aR ((bif (decide (b1000000.aC<(List.length b1000000.f_s:Int))) then((((b1000000.f_s)[Int.toNat b1000000.aC]?.getD 0).toNat:Int)==32) else false):Bool) fun x1 =>
 if x1=true then(fA n k (ai.mk b1000000.f_s (IntKind.wrap .i64 (b1000000.aC+1)) b1000000.bT))
 else some b1000000) else none
abbrev aI(x:ai):List D:=[.str x.f_s,vi x.aC,vb x.bT]
abbrev Ac(x0:ai):Nat×Nat×List D:=(1000000,137,[.str x0.f_s,vi (IntKind.wrap .i64 (x0.aC+1)),vb x0.bT])
abbrev Sj(x0:ai):=(((x0.f_s)[Int.toNat x0.aC]?.getD 0).toNat:Int)
abbrev Jk(x0:ai):=(ai.mk x0.f_s (IntKind.wrap .i64 (x0.aC+1)) x0.bT)
abbrev vR(x0:ai):=(List.length x0.f_s:Int)
theorem rH(n:Nat)(k:Nat):∀(b1000000:ai)(o:ai),fA n k b1000000=some o->To 51 F0 w0 [(0,.own 1000000 0)] [(1000000,137,aI o)] (.exit 0) Q->WL Tryz.prog 51 F0 w0 [(0,.own 1000000 0)] [(1000000,137,aI b1000000)] (cI (cI (cA (cB (cF Tryz.f113))))) Q:=by
 induction k with
 |zero=>intro b1000000 o h;cases h
 |succ k ih =>
  intro b1000000 o h hQ
  rw[fA] at h
  refine WL.round (Wp.seq (Wp.seq ?_))
  obtain⟨hc2,h⟩:=aL h
  obtain⟨x1,hx1,h⟩:=bI h
  refine Wp.eH hm hΓ [] [0,24] [1000000] (K':=[(0,.own 1000000 0),(24,vb (bif (decide (b1000000.aC<(vR b1000000))) then((Sj b1000000)==32) else false))]) (L':=[(1000000,137,aI b1000000)]) (ob:=[(!((decide (b1000000.aC<(vR b1000000)))==true)||decide (0<=b1000000.aC/\b1000000.aC<(vR b1000000)))=true]) (by kernel_rfl) (au.cons hc2 au.nil) (To.eq (K':=[(0,.own 1000000 0),(24,vb x1)]) (L':=[(1000000,137,aI b1000000)]) (by cases hx1;rfl) (by cases hx1;rfl) (To.ah (cn h (fun h=>?_) (fun h=>?_))))
  ·refine Wp.skip (To.ah (Wp.block (rg [0] [1000000] [(0,.own 1000000 0)] [(Ac b1000000)] (To.bf (To.again ?_)))))
   exact ih (Jk b1000000) _ h hQ
  ·refine Wp.exit (To.dE (To.dE (kt [0] [1000000] [(0,.own 1000000 0)] [(1000000,137,aI b1000000)] ?_)))
   cases h
   exact hQ
def dP(n:Nat)(h0:ai):Option (Int×ai) :=
 (fA n n h0).bind fun o1 =>
 if(o1.aC==(List.length o1.f_s:Int))=true then(some (0,o1))
 else(if(decide (0<=o1.aC/\o1.aC<(List.length o1.f_s:Int)))=true then(some ((((o1.f_s)[Int.toNat o1.aC]?.getD 0).toNat:Int),o1)) else none)
theorem jd(n:Nat)(h0:ai)(r:Int×ai)(h:dP n h0=some r):aZ Tryz.prog 113 [.own 1000000 0] [(1000000,137,aI h0)] (.val (.int .u8 r.1)) [(1000000,137,aI r.2)]:=by
 unfold dP at h
 refine bo Tryz.f113 rfl fun F0 w0=>?_
 refine Wp.seq (rg [0] [1000000] [(0,.own 1000000 0)] [(1000000,137,aI h0)] (To.ah (Wp.seq (Wp.block ?_))))
 obtain⟨o1,ho1,h⟩:=aF h
 refine kw [0] [1000000] [(0,.own 1000000 0)] [(1000000,137,aI h0)] (Wp.jB (rH n n h0 o1 ho1 (To.iI (To.ah (Wp.seq (Wp.seq (Wp.eH hm hΓ [] [0,41] [1000000] (K':=[(0,.own 1000000 0),(41,vb (o1.aC==(List.length o1.f_s:Int)))]) (L':=[(1000000,137,aI o1)]) (ob:=[]) (by kernel_rfl) au.nil (To.ah (cn h (fun h=>?_) (fun h=>?_))))))))))
 ·refine Wp.seq (rg [2] [1000000] [(2,.val (.int .u8 0))] [(1000000,137,aI o1)] (To.ah (Wp.ret (To.aO ?_))))
  cases h
  exact To.fl hΓ [1000000] (by kernel_rfl) (by kernel_rfl)
 ·refine Wp.skip (To.ah (Wp.seq ?_))
  obtain⟨hc2,h⟩:=aL h
  refine Wp.eH hm hΓ [] [2] [1000000] (K':=[(2,.val (.int .u8 (((o1.f_s)[Int.toNat o1.aC]?.getD 0).toNat:Int)))]) (L':=[(1000000,137,aI o1)]) (ob:=[(decide (0<=o1.aC/\o1.aC<(List.length o1.f_s:Int)))=true]) (by kernel_rfl) (au.cons hc2 au.nil) (To.ah (Wp.ret ?_))
  cases h
  exact To.fl hΓ [1000000] (by kernel_rfl) (by kernel_rfl)
def bq(n:Nat)(a1:Int)(h0:ai):Option (Bool×ai) :=
 (dP n h0).bind fun r1 =>
 if(r1.1 != a1)=true then(some (false,r1.2))
 else(some (true,(ai.mk r1.2.f_s (IntKind.wrap .i64 (r1.2.aC+1)) r1.2.bT)))
theorem cH(n:Nat)(a1:Int)(h0:ai)(r:Bool×ai)(h:bq n a1 h0=some r):aZ Tryz.prog 137 [.own 1000000 0,.val (.int .u8 a1)] [(1000000,137,aI h0)] (vb r.1) [(1000000,137,aI r.2)]:=by
 unfold bq at h
 refine bo Tryz.f137 rfl fun F0 w0=>?_
 refine Wp.seq (rg [0,1] [1000000] [(0,.own 1000000 0),(1,.val (.int .u8 a1))] [(1000000,137,aI h0)] (To.ah (Wp.seq (Wp.seq ?_))))
 obtain⟨r1,hr1,h⟩:=aF h
 refine rb [] 1 ⟨[(1000000,1000000)],[(1000000,1000000)],[.own 1000000 0],[(1000000,137,aI h0)],.val (.int .u8 r1.1),[(1000000,137,aI r1.2)]⟩ [0,8] [1000000] [(0,.own 1000000 0),(8,vb (r1.1 != a1))] [(1000000,137,aI r1.2)] ((jd n h0 _ hr1)) (To.ah (cn h (fun h=>?_) (fun h=>?_)))
 ·refine Wp.seq (rg [4] [1000000] [(4,vb false)] [(1000000,137,aI r1.2)] (To.ah (Wp.ret (To.aO ?_))))
  cases h
  exact To.fl hΓ [1000000] (by kernel_rfl) (by kernel_rfl)
 ·refine Wp.skip (To.ah (Wp.seq (rg [] [1000000] [] [(1000000,137,[.str r1.2.f_s,vi (IntKind.wrap .i64 (r1.2.aC+1)),vb r1.2.bT])] (To.ah (Wp.seq (rg [4] [1000000] [(4,vb true)] [(1000000,137,[.str r1.2.f_s,vi (IntKind.wrap .i64 (r1.2.aC+1)),vb r1.2.bT])] (To.ah (Wp.ret ?_))))))))
  cases h
  exact To.fl hΓ [1000000] (by kernel_rfl) (by kernel_rfl)
mutual
def cv(R_flow_reader_value__o0:ai->Option (af×Bool×ai))(n:Nat):Nat->af->ai->Option (af×ai)
 |0,_,_=>none
 |k+1,b2,b1000000=>(bq n 93 (ai.mk b1000000.f_s (IntKind.wrap .i64 (b1000000.aC+1)) b1000000.bT)).bind fun r1 =>
 if r1.1=true then(some ((af.mk 2 [] [] []),r1.2))
 else((R_flow_reader_value__o0 r1.2).bind fun r2 =>
 if(bif r2.2.2.bT then true else(!r2.2.1))=true then(some ((af.mk 2 [] [] []),(ai.mk r2.2.2.f_s r2.2.2.aC (bif r2.2.2.bT then true else(!r2.2.1)))))
 else(if(decide ((List.length ([]:List (af))+List.length ([r2.1]:List (af)))*(72+1)<=limit))=true then((bq n 44 (ai.mk r2.2.2.f_s r2.2.2.aC (bif r2.2.2.bT then true else(!r2.2.1)))).bind fun r3 =>
 if r3.1=true then(dc R_flow_reader_value__o0 n k b2 (af.mk 2 [] [] (([]:List (af))++([r2.1]:List (af)))) r3.2)
 else((bq n 93 r3.2).bind fun r4 =>
 some ((af.mk 2 [] [] (([]:List (af))++([r2.1]:List (af)))),(ai.mk r4.2.f_s r4.2.aC (!r4.1))))) else none))
def dc(R_flow_reader_value__o0:ai->Option (af×Bool×ai))(n:Nat):Nat->af->af->ai->Option (af×ai)
 |0,_,_,_=>none
 |k+1,b2,b3,b1000000=>(R_flow_reader_value__o0 b1000000).bind fun r1 =>
 if(bif r1.2.2.bT then true else(!r1.2.1))=true then(some (b3,(ai.mk r1.2.2.f_s r1.2.2.aC (bif r1.2.2.bT then true else(!r1.2.1)))))
 else(if(decide ((List.length b3.aj+List.length ([r1.1]:List (af)))*(72+1)<=limit))=true then((bq n 44 (ai.mk r1.2.2.f_s r1.2.2.aC (bif r1.2.2.bT then true else(!r1.2.1)))).bind fun r2 =>
 if r2.1=true then(dc R_flow_reader_value__o0 n k b2 (af.mk b3.aG b3.av b3.ay (b3.aj++([r1.1]:List (af)))) r2.2)
 else((bq n 93 r2.2).bind fun r3 =>
 some ((af.mk b3.aG b3.av b3.ay (b3.aj++([r1.1]:List (af)))),(ai.mk r3.2.f_s r3.2.aC (!r3.1))))) else none)
end
abbrev zU(R_flow_reader_value__o0:ai->Option (af×Bool×ai)):Prop:=∀(h0:ai)(r:af×Bool×ai),R_flow_reader_value__o0 h0=some r->aZ Tryz.prog 112 [.own 1000000 0] [(1000000,137,[.str h0.f_s,vi h0.aC,vb h0.bT])] (.tup [.agg [vi r.1.aG,.str r.1.av,ls r.1.ay,tn4 r.1.aj],vb r.2.1]) [(1000000,137,[.str r.2.2.f_s,vi r.2.2.aC,vb r.2.2.bT])]
abbrev CJ(x0:ai):=(IntKind.wrap .i64 (x0.aC+1))
theorem sj(R_flow_reader_value__o0:ai->Option (af×Bool×ai))(hR_flow_reader_value__o0:zU R_flow_reader_value__o0)(n:Nat)(k:Nat):(∀(b2:af)(b1000000:ai)(o:af×ai),cv R_flow_reader_value__o0 n k b2 b1000000=some o->To 53 F0 w0 [(2,.own 2 0)] [(2,26,gu 4123 o.1),(4123,26,[aQ o.1.aj]),(1000000,137,aI o.2)] .ret Q->WG Tryz.prog 53 F0 w0 [(0,.own 1000000 0),(2,.own 2 0)] [(2,26,qc6 b2),(1000000,137,aI b1000000)] (cI (cB (cF Tryz.f126))) (cI (cB (cF Tryz.f126))) Q) /\
 (∀(b2:af)(b3:af)(b1000000:ai)(o:af×ai),dc R_flow_reader_value__o0 n k b2 b3 b1000000=some o->To 53 F0 w0 [(2,.own 2 0)] [(2,26,gu 4123 o.1),(4123,26,[aQ o.1.aj]),(1000000,137,aI o.2)] .ret Q->WG Tryz.prog 53 F0 w0 [(0,.own 1000000 0),(2,.own 2 0),(3,.own 3 0)] [(2,26,qc6 b2),(3,26,gu 4183 b3),(4183,26,[aQ b3.aj]),(1000000,137,aI b1000000)] (cI (cB (cF Tryz.f126))) (cG 0 (cB (cF Tryz.f126))) Q):=by
 induction k with
 |zero=>exact⟨(by intro b2 b1000000 o h;cases h),(by intro b2 b3 b1000000 o h;cases h)⟩
 |succ k ih =>
  refine⟨?_,?_⟩
  ·intro b2 b1000000 o h hQ
   rw[cv] at h
   refine WG.pass (Wp.seq (rg [0,2,3] [2,3,1000000] [(0,.own 1000000 0),(2,.own 2 0),(3,.own 3 0)] [(2,26,qc6 b2),(3,26,[vi 2,.str [],.val (.slice none 0 0),.val (.slice none 0 0)]),(1000000,137,aI b1000000)] (To.ah (Wp.seq (rg [0,2,3] [2,3,1000000] [(0,.own 1000000 0),(2,.own 2 0),(3,.own 3 0)] [(2,26,qc6 b2),(3,26,[vi 2,.str [],.val (.slice none 0 0),.val (.slice none 0 0)]),(Ac b1000000)] (To.ah (Wp.seq (Wp.seq ?_))))))))
   obtain⟨r1,hr1,h⟩:=aF h
   refine rb [] 1 ⟨[(1000000,1000000)],[(1000000,1000000)],[.own 1000000 0,.val (.int .u8 93)],[(Ac b1000000)],vb r1.1,[(1000000,137,aI r1.2)]⟩ [0,2,3,15] [2,3,1000000] [(0,.own 1000000 0),(2,.own 2 0),(3,.own 3 0),(15,vb r1.1)] [(2,26,qc6 b2),(3,26,[vi 2,.str [],.val (.slice none 0 0),.val (.slice none 0 0)]),(1000000,137,aI r1.2)] ((cH n 93 (Jk b1000000) _ hr1)) (To.ah (cn h (fun h=>?_) (fun h=>?_)))
   ·refine Wp.seq (rg [2] [2,1000000] [(2,.own 2 0)] [(2,26,[vi 2,.str [],.val (.slice none 0 0),.val (.slice none 0 0)]),(1000000,137,aI r1.2)] (To.ah (Wp.ret (To.aO (To.kF (.inr (.inl rfl)) (kt [2] [2,1000000] [(2,.own 2 0)] [(2,26,[vi 2,.str [],.val (.slice none 0 0),.val (.slice none 0 0)]),(1000000,137,aI r1.2)] (To.pre (St.nj 2 3 4123 26 (bU _) (by decide) (by kernel_rfl) (L':=[(2,26,[vi 2,.str [],.val (.slice none 0 0),.row 4123]),(1000000,137,aI r1.2)]) (by kernel_rfl)) (kt [2] [2,4123,1000000] [(2,.own 2 0)] [(2,26,[vi 2,.str [],.val (.slice none 0 0),.row 4123]),(4123,26,[aQ []]),(1000000,137,aI r1.2)] (To.weak (K':=[(2,.own 2 0)]) (L':=[(2,26,[vi 2,.str [],ls [],.row 4123]),(4123,26,[aQ []]),(1000000,137,aI r1.2)]) (.cons (.refl _) .nil) (.cons (.cons (.refl _) (.cons (.refl _) (.cons (.zero _ _) (.cons (.refl _) .nil)))) (.cons (.cons (.refl _) .nil) (.cons (.cons (.refl _) (.cons (.refl _) (.cons (.refl _) .nil))) .nil))) ?_)))))))))
    cases h
    exact hQ
   ·refine Wp.skip (To.ah (Wp.seq (kw [0,2,3,15] [2,3,1000000] [(0,.own 1000000 0),(2,.own 2 0),(3,.own 3 0),(15,vb r1.1)] [(2,26,qc6 b2),(3,26,[vi 2,.str [],.val (.slice none 0 0),.val (.slice none 0 0)]),(1000000,137,aI r1.2)] (Wp.pre (St.nj 3 3 4183 26 (bU _) (by decide) (by kernel_rfl) (L':=[(2,26,qc6 b2),(3,26,[vi 2,.str [],.val (.slice none 0 0),.row 4183]),(1000000,137,aI r1.2)]) (by kernel_rfl)) (kw [0,2,3,15] [2,3,4183,1000000] [(0,.own 1000000 0),(2,.own 2 0),(3,.own 3 0),(15,vb r1.1)] [(2,26,qc6 b2),(3,26,[vi 2,.str [],.val (.slice none 0 0),.row 4183]),(4183,26,[aQ []]),(1000000,137,aI r1.2)] (Wp.label (To.ah (Wp.seq ?_))))))))
    obtain⟨r2,hr2,h⟩:=aF h
    refine rb [] 1 ⟨[(1000000,1000000)],[(1000000,1000000)],[.own 1000000 0],[(1000000,137,aI r1.2)],.tup [.agg (qc6 r2.1),vb r2.2.1],[(1000000,137,aI r2.2.2)]⟩ [0,2,3,4,5] [2,3,4,4183,1000000] [(0,.own 1000000 0),(2,.own 2 0),(3,.own 3 0),(4,.own 4 0),(5,vb r2.2.1)] [(2,26,qc6 b2),(3,26,[vi 2,.str [],.val (.slice none 0 0),.row 4183]),(4,26,qc6 r2.1),(4183,26,[aQ []]),(1000000,137,aI r2.2.2)] ((hR_flow_reader_value__o0 r1.2 _ hr2)) (To.ah (Wp.seq (Wp.seq (rg [0,2,3,4] [2,3,4,4183,1000000] [(0,.own 1000000 0),(2,.own 2 0),(3,.own 3 0),(4,.own 4 0)] [(2,26,qc6 b2),(3,26,[vi 2,.str [],.val (.slice none 0 0),.row 4183]),(4,26,qc6 r2.1),(4183,26,[aQ []]),(1000000,137,[.str r2.2.2.f_s,vi r2.2.2.aC,vb (bif r2.2.2.bT then true else(!r2.2.1))])] (To.ah (Wp.seq (rg [0,2,3,4,36] [2,3,4,4183,1000000] [(0,.own 1000000 0),(2,.own 2 0),(3,.own 3 0),(4,.own 4 0),(36,vb (bif r2.2.2.bT then true else(!r2.2.1)))] [(2,26,qc6 b2),(3,26,[vi 2,.str [],.val (.slice none 0 0),.row 4183]),(4,26,qc6 r2.1),(4183,26,[aQ []]),(1000000,137,[.str r2.2.2.f_s,vi r2.2.2.aC,vb (bif r2.2.2.bT then true else(!r2.2.1))])] (To.ah (cn h (fun h=>?_) (fun h=>?_))))))))))
    ·refine Wp.seq (rg [2] [2,4183,1000000] [(2,.own 2 0)] [(2,26,[vi 2,.str [],.val (.slice none 0 0),.row 4183]),(4183,26,[aQ []]),(1000000,137,[.str r2.2.2.f_s,vi r2.2.2.aC,vb (bif r2.2.2.bT then true else(!r2.2.1))])] (To.ah (Wp.ret (To.aO (To.kF (.inr (.inl rfl)) (nt [2] [2,4183,1000000] [(4183,4123)] [2] [2,4123,1000000] [(2,.own 2 0)] [(2,26,[vi 2,.str [],.val (.slice none 0 0),.row 4123]),(4123,26,[aQ []]),(1000000,137,[.str r2.2.2.f_s,vi r2.2.2.aC,vb (bif r2.2.2.bT then true else(!r2.2.1))])] (To.weak (K':=[(2,.own 2 0)]) (L':=[(2,26,[vi 2,.str [],ls [],.row 4123]),(4123,26,[aQ []]),(1000000,137,[.str r2.2.2.f_s,vi r2.2.2.aC,vb (bif r2.2.2.bT then true else(!r2.2.1))])]) (.cons (.refl _) .nil) (.cons (.cons (.refl _) (.cons (.refl _) (.cons (.zero _ _) (.cons (.refl _) .nil)))) (.cons (.cons (.refl _) .nil) (.cons (.cons (.refl _) (.cons (.refl _) (.cons (.refl _) .nil))) .nil))) ?_)))))))
     cases h
     exact hQ
    ·refine Wp.skip (To.ah (Wp.seq ?_))
     obtain⟨hc5,h⟩:=aL h
     refine rr [] [(3,dO [r2.1]),(4,dO (([]:List (af))++([r2.1]:List (af))))] [] [0,2,3] [2,3,42,1000000] [(0,.own 1000000 0),(2,.own 2 0),(3,.own 3 0)] [(2,26,qc6 b2),(3,26,[vi 2,.str [],.val (.slice none 0 0),.row 42]),(42,26,[aQ (([]:List (af))++([r2.1]:List (af)))]),(1000000,137,[.str r2.2.2.f_s,vi r2.2.2.aC,vb (bif r2.2.2.bT then true else(!r2.2.1))])] [(fD 4 (qc6 r2.1) 1 (dO [r2.1])/\aX (dO [r2.1])),_,(iN zx3 dV ([]:List (af)) (List.flatMap dV ([r2.1]:List (af))) (List.length ([r2.1]:List (af))) (dO (([]:List (af))++([r2.1]:List (af))))/\aX (dO (([]:List (af))++([r2.1]:List (af)))))] (au.cons (jN (by kernel_rfl) rfl (by kernel_rfl) (bU _)) (au.cons hc5 (au.cons (iP rfl rfl (bU _)) au.nil))) (To.ah (Wp.seq (Wp.seq ?_)))
     obtain⟨r3,hr3,h⟩:=aF h
     refine rb [] 1 ⟨[(1000000,1000000)],[(1000000,1000000)],[.own 1000000 0,.val (.int .u8 44)],[(1000000,137,[.str r2.2.2.f_s,vi r2.2.2.aC,vb (bif r2.2.2.bT then true else(!r2.2.1))])],vb r3.1,[(1000000,137,aI r3.2)]⟩ [0,2,3,45] [2,3,42,1000000] [(0,.own 1000000 0),(2,.own 2 0),(3,.own 3 0),(45,vb r3.1)] [(2,26,qc6 b2),(3,26,[vi 2,.str [],.val (.slice none 0 0),.row 42]),(42,26,[aQ (([]:List (af))++([r2.1]:List (af)))]),(1000000,137,aI r3.2)] ((cH n 44 (ai.mk r2.2.2.f_s r2.2.2.aC (bif r2.2.2.bT then true else(!r2.2.1))) _ hr3)) (To.ah (cn h (fun h=>?_) (fun h=>?_)))
     ·refine Wp.goto (To.yE (nt [0,2,3] [2,3,42,1000000] [(42,4183)] [0,2,3] [2,3,4183,1000000] [(0,.own 1000000 0),(2,.own 2 0),(3,.own 3 0)] [(2,26,qc6 b2),(3,26,[vi 2,.str [],.val (.slice none 0 0),.row 4183]),(4183,26,[aQ (([]:List (af))++([r2.1]:List (af)))]),(1000000,137,aI r3.2)] (To.weak (K':=[(0,.own 1000000 0),(2,.own 2 0),(3,.own 3 0)]) (L':=[(2,26,qc6 b2),(3,26,[vi 2,.str [],ls [],.row 4183]),(4183,26,[aQ (([]:List (af))++([r2.1]:List (af)))]),(1000000,137,aI r3.2)]) (.cons (.refl _) (.cons (.refl _) (.cons (.refl _) .nil))) (.cons (.cons (.refl _) (.cons (.refl _) (.cons (.refl _) (.cons (.refl _) .nil)))) (.cons (.cons (.refl _) (.cons (.refl _) (.cons (.zero _ _) (.cons (.refl _) .nil)))) (.cons (.cons (.refl _) .nil) (.cons (.cons (.refl _) (.cons (.refl _) (.cons (.refl _) .nil))) .nil)))) (To.goto (rest:=cG 0 (cB (cF Tryz.f126))) (by kernel_rfl) ?_))))
      exact ih.2 b2 (af.mk 2 [] [] (([]:List (af))++([r2.1]:List (af)))) r3.2 _ h hQ
     ·refine Wp.skip (To.ah (Wp.seq ?_))
      obtain⟨r4,hr4,h⟩:=aF h
      refine rb [] 2 ⟨[(1000000,1000000)],[(1000000,1000000)],[.own 1000000 0,.val (.int .u8 93)],[(1000000,137,aI r3.2)],vb r4.1,[(1000000,137,aI r4.2)]⟩ [2,3] [2,3,42,1000000] [(2,.own 2 0),(3,.own 3 0)] [(2,26,qc6 b2),(3,26,[vi 2,.str [],.val (.slice none 0 0),.row 42]),(42,26,[aQ (([]:List (af))++([r2.1]:List (af)))]),(1000000,137,[.str r4.2.f_s,vi r4.2.aC,vb (!r4.1)])] ((cH n 93 r3.2 _ hr4)) (To.ah (Wp.seq (rg [2] [2,42,1000000] [(2,.own 2 0)] [(2,26,[vi 2,.str [],.val (.slice none 0 0),.row 42]),(42,26,[aQ (([]:List (af))++([r2.1]:List (af)))]),(1000000,137,[.str r4.2.f_s,vi r4.2.aC,vb (!r4.1)])] (To.ah (Wp.ret (To.kF (.inr (.inl rfl)) (nt [2] [2,42,1000000] [(42,4123)] [2] [2,4123,1000000] [(2,.own 2 0)] [(2,26,[vi 2,.str [],.val (.slice none 0 0),.row 4123]),(4123,26,[aQ (([]:List (af))++([r2.1]:List (af)))]),(1000000,137,[.str r4.2.f_s,vi r4.2.aC,vb (!r4.1)])] (To.weak (K':=[(2,.own 2 0)]) (L':=[(2,26,[vi 2,.str [],ls [],.row 4123]),(4123,26,[aQ (([]:List (af))++([r2.1]:List (af)))]),(1000000,137,[.str r4.2.f_s,vi r4.2.aC,vb (!r4.1)])]) (.cons (.refl _) .nil) (.cons (.cons (.refl _) (.cons (.refl _) (.cons (.zero _ _) (.cons (.refl _) .nil)))) (.cons (.cons (.refl _) .nil) (.cons (.cons (.refl _) (.cons (.refl _) (.cons (.refl _) .nil))) .nil))) ?_))))))))
      cases h
      exact hQ
  ·intro b2 b3 b1000000 o h hQ
   rw[dc] at h
   refine WG.pass (Wp.seq (Wp.skip (To.ah (Wp.seq ?_))))
   obtain⟨r1,hr1,h⟩:=aF h
   refine rb [] 1 ⟨[(1000000,1000000)],[(1000000,1000000)],[.own 1000000 0],[(1000000,137,aI b1000000)],.tup [.agg (qc6 r1.1),vb r1.2.1],[(1000000,137,aI r1.2.2)]⟩ [0,2,3,4,5] [2,3,4,4183,1000000] [(0,.own 1000000 0),(2,.own 2 0),(3,.own 3 0),(4,.own 4 0),(5,vb r1.2.1)] [(2,26,qc6 b2),(3,26,gu 4183 b3),(4,26,qc6 r1.1),(4183,26,[aQ b3.aj]),(1000000,137,aI r1.2.2)] ((hR_flow_reader_value__o0 b1000000 _ hr1)) (To.ah (Wp.seq (Wp.seq (rg [0,2,3,4] [2,3,4,4183,1000000] [(0,.own 1000000 0),(2,.own 2 0),(3,.own 3 0),(4,.own 4 0)] [(2,26,qc6 b2),(3,26,gu 4183 b3),(4,26,qc6 r1.1),(4183,26,[aQ b3.aj]),(1000000,137,[.str r1.2.2.f_s,vi r1.2.2.aC,vb (bif r1.2.2.bT then true else(!r1.2.1))])] (To.ah (Wp.seq (rg [0,2,3,4,36] [2,3,4,4183,1000000] [(0,.own 1000000 0),(2,.own 2 0),(3,.own 3 0),(4,.own 4 0),(36,vb (bif r1.2.2.bT then true else(!r1.2.1)))] [(2,26,qc6 b2),(3,26,gu 4183 b3),(4,26,qc6 r1.1),(4183,26,[aQ b3.aj]),(1000000,137,[.str r1.2.2.f_s,vi r1.2.2.aC,vb (bif r1.2.2.bT then true else(!r1.2.1))])] (To.ah (cn h (fun h=>?_) (fun h=>?_))))))))))
   ·refine Wp.seq (rg [2] [2,4183,1000000] [(2,.own 2 0)] [(2,26,gu 4183 b3),(4183,26,[aQ b3.aj]),(1000000,137,[.str r1.2.2.f_s,vi r1.2.2.aC,vb (bif r1.2.2.bT then true else(!r1.2.1))])] (To.ah (Wp.ret (To.aO (To.kF (.inr (.inl rfl)) (nt [2] [2,4183,1000000] [(4183,4123)] [2] [2,4123,1000000] [(2,.own 2 0)] [(2,26,gu 4123 b3),(4123,26,[aQ b3.aj]),(1000000,137,[.str r1.2.2.f_s,vi r1.2.2.aC,vb (bif r1.2.2.bT then true else(!r1.2.1))])] ?_))))))
    cases h
    exact hQ
   ·refine Wp.skip (To.ah (Wp.seq ?_))
    obtain⟨hc4,h⟩:=aL h
    refine rr [] [(3,dO [r1.1]),(4,dO (b3.aj++([r1.1]:List (af))))] [] [0,2,3] [2,3,42,1000000] [(0,.own 1000000 0),(2,.own 2 0),(3,.own 3 0)] [(2,26,qc6 b2),(3,26,gu 42 b3),(42,26,[aQ (b3.aj++([r1.1]:List (af)))]),(1000000,137,[.str r1.2.2.f_s,vi r1.2.2.aC,vb (bif r1.2.2.bT then true else(!r1.2.1))])] [(fD 4 (qc6 r1.1) 1 (dO [r1.1])/\aX (dO [r1.1])),_,(iN zx3 dV b3.aj (List.flatMap dV ([r1.1]:List (af))) (List.length ([r1.1]:List (af))) (dO (b3.aj++([r1.1]:List (af))))/\aX (dO (b3.aj++([r1.1]:List (af)))))] (au.cons (jN (by kernel_rfl) rfl (by kernel_rfl) (bU _)) (au.cons hc4 (au.cons (iP rfl rfl (bU _)) au.nil))) (To.ah (Wp.seq (Wp.seq ?_)))
    obtain⟨r2,hr2,h⟩:=aF h
    refine rb [] 1 ⟨[(1000000,1000000)],[(1000000,1000000)],[.own 1000000 0,.val (.int .u8 44)],[(1000000,137,[.str r1.2.2.f_s,vi r1.2.2.aC,vb (bif r1.2.2.bT then true else(!r1.2.1))])],vb r2.1,[(1000000,137,aI r2.2)]⟩ [0,2,3,45] [2,3,42,1000000] [(0,.own 1000000 0),(2,.own 2 0),(3,.own 3 0),(45,vb r2.1)] [(2,26,qc6 b2),(3,26,gu 42 b3),(42,26,[aQ (b3.aj++([r1.1]:List (af)))]),(1000000,137,aI r2.2)] ((cH n 44 (ai.mk r1.2.2.f_s r1.2.2.aC (bif r1.2.2.bT then true else(!r1.2.1))) _ hr2)) (To.ah (cn h (fun h=>?_) (fun h=>?_)))
    ·refine Wp.goto (To.yE (nt [0,2,3] [2,3,42,1000000] [(42,4183)] [0,2,3] [2,3,4183,1000000] [(0,.own 1000000 0),(2,.own 2 0),(3,.own 3 0)] [(2,26,qc6 b2),(3,26,gu 4183 b3),(4183,26,[aQ (b3.aj++([r1.1]:List (af)))]),(1000000,137,aI r2.2)] (To.goto (rest:=cG 0 (cB (cF Tryz.f126))) (by kernel_rfl) ?_)))
     exact ih.2 b2 (af.mk b3.aG b3.av b3.ay (b3.aj++([r1.1]:List (af)))) r2.2 _ h hQ
    ·refine Wp.skip (To.ah (Wp.seq ?_))
     obtain⟨r3,hr3,h⟩:=aF h
     refine rb [] 2 ⟨[(1000000,1000000)],[(1000000,1000000)],[.own 1000000 0,.val (.int .u8 93)],[(1000000,137,aI r2.2)],vb r3.1,[(1000000,137,aI r3.2)]⟩ [2,3] [2,3,42,1000000] [(2,.own 2 0),(3,.own 3 0)] [(2,26,qc6 b2),(3,26,gu 42 b3),(42,26,[aQ (b3.aj++([r1.1]:List (af)))]),(1000000,137,[.str r3.2.f_s,vi r3.2.aC,vb (!r3.1)])] ((cH n 93 r2.2 _ hr3)) (To.ah (Wp.seq (rg [2] [2,42,1000000] [(2,.own 2 0)] [(2,26,gu 42 b3),(42,26,[aQ (b3.aj++([r1.1]:List (af)))]),(1000000,137,[.str r3.2.f_s,vi r3.2.aC,vb (!r3.1)])] (To.ah (Wp.ret (To.kF (.inr (.inl rfl)) (nt [2] [2,42,1000000] [(42,4123)] [2] [2,4123,1000000] [(2,.own 2 0)] [(2,26,gu 4123 b3),(4123,26,[aQ (b3.aj++([r1.1]:List (af)))]),(1000000,137,[.str r3.2.f_s,vi r3.2.aC,vb (!r3.1)])] ?_)))))))
     cases h
     exact hQ
def fM(R_flow_reader_value__o0:ai->Option (af×Bool×ai))(n:Nat)(h0:ai):Option (af×ai) :=
 (cv R_flow_reader_value__o0 n n (af.mk 0 [] [] []) h0).bind fun o1 =>
 some (o1.1,o1.2)
theorem uR(R_flow_reader_value__o0:ai->Option (af×Bool×ai))(hR_flow_reader_value__o0:zU R_flow_reader_value__o0)(n:Nat)(h0:ai)(r:af×ai)(h:fM R_flow_reader_value__o0 n h0=some r):aZ Tryz.prog 126 [.own 1000000 0] [(1000000,137,aI h0)] (.agg (qc6 r.1)) [(1000000,137,aI r.2)]:=by
 unfold fM at h
 refine bo Tryz.f126 rfl fun F0 w0=>?_
 refine Wp.seq (rg [0,2] [2,1000000] [(0,.own 1000000 0),(2,.own 2 0)] [(2,26,[vi 0,.str [],.val (.slice none 0 0),.val (.slice none 0 0)]),(1000000,137,aI h0)] (To.ah ?_))
 obtain⟨o1,ho1,h⟩:=aF h
 refine kw [0,2] [2,1000000] [(0,.own 1000000 0),(2,.own 2 0)] [(2,26,[vi 0,.str [],.val (.slice none 0 0),.val (.slice none 0 0)]),(1000000,137,aI h0)] (Wp.weak (K':=[(0,.own 1000000 0),(2,.own 2 0)]) (L':=[(2,26,[vi 0,.str [],ls [],tn4 []]),(1000000,137,aI h0)]) (.cons (.refl _) (.cons (.refl _) .nil)) (.cons (.cons (.refl _) (.cons (.refl _) (.cons (.zero _ _) (.cons (.ik _ _ _) .nil)))) (.cons (.cons (.refl _) (.cons (.refl _) (.cons (.refl _) .nil))) .nil)) (Wp.FH ((sj R_flow_reader_value__o0 hR_flow_reader_value__o0 n n).1 zx3 h0 o1 ho1 (kt [2] [2,4123,1000000] [(2,.own 2 0)] [(2,26,gu 4123 o1.1),(4123,26,[aQ o1.1.aj]),(1000000,137,aI o1.2)] (To.pre (St.settle (ks:=[4123]) (kk:=[2]) (kl:=[2,4123,1000000]) (K':=[(2,.own 2 0)]) (L':=[(2,26,gu 4123 o1.1),(4123,26,[rK o1.1.aj]),(1000000,137,aI o1.2)]) (by kernel_rfl)) (To.pre (St.EK [2] (L':=[(2,26,JR o1.1),(4123,26,[rK o1.1.aj]),(1000000,137,aI o1.2)]) (by kernel_rfl)) (To.weak (K':=[(2,.own 2 0)]) (L':=[(2,26,qc6 o1.1),(4123,26,[rK o1.1.aj]),(1000000,137,aI o1.2)]) (.cons (.refl _) .nil) (.cons (.cons (.refl _) (.cons (.refl _) (.cons (.refl _) (.cons (.close _ _ _ _) .nil)))) (.cons (.cons (.refl _) .nil) (.cons (.cons (.refl _) (.cons (.refl _) (.cons (.refl _) .nil))) .nil))) ?_)))))))
 cases h
 exact To.fl hΓ [1000000] (by kernel_rfl) (by kernel_rfl)
def um:Int->List D:=fun x=>[.val (.int .i64 x)]
def dR(n:Nat)(h0:ai):Option (Bs×ai) :=
 (br n h0.f_s h0.aC).bind fun r1 =>
 if(r1.2.2 != 0)=true then(some ([],(ai.mk h0.f_s h0.aC true)))
 else(some (r1.1,(ai.mk h0.f_s r1.2.1 h0.bT)))
end Go.Proofs.YtefojkdckfidcaaGreatDoor.M
