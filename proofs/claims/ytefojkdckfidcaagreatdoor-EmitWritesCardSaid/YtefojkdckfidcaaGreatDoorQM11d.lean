import Derived.Test.YtefojkdckfidcaaGreatDoorQM11c
set_option linter.all false
namespace Go.Proofs.YtefojkdckfidcaaGreatDoor.M
open Go.RowKit Go.Proofs.YtefojkdckfidcaaGreatDoor.RX
set_option maxRecDepth 100000
variable {F0:Fz} {w0:Pt Tryz.prog} {Q:Exit->Act->World->Prop}
theorem oG(R_block_reader_block__o0_s2:au->Option (af×au))(hR_block_reader_block__o0_s2:u6 R_block_reader_block__o0_s2)(n:Nat)(v1:Int)(v7:Bs)(v8:Bs)(v92:Bool)(b4:af)(b5:af)(b6:aG)(b10:af)(b1000000:au)(o:af×au)(h:dF R_block_reader_block__o0_s2 n v1 v7 v8 v92 b4 b5 b6 b10 b1000000=some o)(hQ:To 114 F0 w0 [(0,.own 1000000 0),(1,vi v1),(4,.own 4 0),(5,.own 5 0),(7,.str v7),(10,.own 10 0)] [(4,26,qc6 b4),(5,26,cH 4302 4303 b5),(10,26,qc6 o.1),(4302,9,[rc2 b5.av]),(4303,26,[aP b5.ai]),(504000,50,[aK o.2.f_l]),(1000000,46,aM 504000 o.2)] .normal Q):Wp Tryz.prog 114 F0 w0 [(0,.own 1000000 0),(1,vi v1),(4,.own 4 0),(5,.own 5 0),(6,.own 6 0),(7,.str v7),(8,.str v8),(10,.own 10 0),(92,vb v92)] [(4,26,qc6 b4),(5,26,cH 4302 4303 b5),(6,50,lq b6),(10,26,qc6 b10),(4302,9,[rc2 b5.av]),(4303,26,[aP b5.ai]),(dM b1000000),(fH b1000000)] (cB (cA (cB (cB (cB (cB (cB (cI (cB (cI (cI (cA (cB (cB (cI (cB (cF Tryz.f56))))))))))))))))) Q:=by
 unfold dF at h
 refine cn h (fun h=>?_) (fun h=>?_)
 ·obtain⟨r6,hr6,h⟩:=ay h
  refine rb [] 4 ⟨[(1000000,1000000),(1010000,504000)],[(200,504000),(1000000,1000000)],[.own 1000000 0,vi b6.fD,.str v8],[(qS b1000000),(rZ b1000000)],.agg (qc6 r6.1),[(200,50,[aK r6.2.f_l]),(1000000,46,aM 200 r6.2)]⟩ [0,1,4,5,7,10] [4,5,10,4302,4303,504000,1000000] [(0,.own 1000000 0),(1,vi v1),(4,.own 4 0),(5,.own 5 0),(7,.str v7),(10,.own 10 0)] [(4,26,qc6 b4),(5,26,cH 4302 4303 b5),(10,26,qc6 r6.1),(4302,9,[rc2 b5.av]),(4303,26,[aP b5.ai]),(504000,50,[aK r6.2.f_l]),(1000000,46,aM 504000 r6.2)] ((lF n b6.fD v8 b1000000 _ hr6)) (kt [0,1,4,5,7,10] [4,5,10,4302,4303,504000,1000000] [(0,.own 1000000 0),(1,vi v1),(4,.own 4 0),(5,.own 5 0),(7,.str v7),(10,.own 10 0)] [(4,26,qc6 b4),(5,26,cH 4302 4303 b5),(10,26,qc6 r6.1),(4302,9,[rc2 b5.av]),(4303,26,[aP b5.ai]),(504000,50,[aK r6.2.f_l]),(1000000,46,aM 504000 r6.2)] ?_)
  cases h
  exact hQ
 ·obtain⟨r7,hr7,h⟩:=ay h
  refine rb [] 2 ⟨[(1000000,1000000),(1010000,504000)],[(200,504000),(1000000,1000000)],[.own 1000000 0,vi v1,vb true],[(qS b1000000),(rZ b1000000)],.agg (qc6 r7.1),[(200,50,[aK r7.2.f_l]),(1000000,46,aM 200 r7.2)]⟩ [0,1,4,5,7,10] [4,5,10,4302,4303,504000,1000000] [(0,.own 1000000 0),(1,vi v1),(4,.own 4 0),(5,.own 5 0),(7,.str v7),(10,.own 10 0)] [(4,26,qc6 b4),(5,26,cH 4302 4303 b5),(10,26,qc6 r7.1),(4302,9,[rc2 b5.av]),(4303,26,[aP b5.ai]),(504000,50,[aK r7.2.f_l]),(1000000,46,aM 504000 r7.2)] ((j6 R_block_reader_block__o0_s2 hR_block_reader_block__o0_s2 n v1 true b1000000 _ hr7)) (kt [0,1,4,5,7,10] [4,5,10,4302,4303,504000,1000000] [(0,.own 1000000 0),(1,vi v1),(4,.own 4 0),(5,.own 5 0),(7,.str v7),(10,.own 10 0)] [(4,26,qc6 b4),(5,26,cH 4302 4303 b5),(10,26,qc6 r7.1),(4302,9,[rc2 b5.av]),(4303,26,[aP b5.ai]),(504000,50,[aK r7.2.f_l]),(1000000,46,aM 504000 r7.2)] ?_)
  cases h
  exact hQ
def cy(R_block_reader_block__o0_s2:au->Option (af×au))(n:Nat)(v1:Int):Nat->af->af->au->Option (Sum (af×af×au) (af×au))
 |0,_,_,_=>none
 |k+1,b4,b5,b1000000=>if(bif (b1000000.f_e==0) then(decide (b1000000.aC<(List.length b1000000.f_l:Int))) else false)=true then(if(decide (0<=b1000000.aC/\b1000000.aC<(List.length b1000000.f_l:Int)))=true then((jN n (((b1000000.f_l)[Int.toNat b1000000.aC]?.getD (aG.mk 0 0 [])).aI)).bind fun r1 =>
 ((if(((decide (r1.2.2>0))==true)&&(((decide (r1.2.2<0))==false)&&((((((b1000000.f_l)[Int.toNat b1000000.aC]?.getD (aG.mk 0 0 [])).bE)==v1)==true)&&((decide ((((b1000000.f_l)[Int.toNat b1000000.aC]?.getD (aG.mk 0 0 [])).bE)>v1))==false))))=true then ta n b5.av r1.1 else some false)).bind fun r2 =>
 bM ((bif (decide ((((b1000000.f_l)[Int.toNat b1000000.aC]?.getD (aG.mk 0 0 [])).bE)>v1)) then true else(bif ((((b1000000.f_l)[Int.toNat b1000000.aC]?.getD (aG.mk 0 0 [])).bE)==v1) then(bif (decide (r1.2.2<0)) then true else(bif (decide (r1.2.2>0)) then r2 else false)) else false)):Bool) fun x3 =>
 if x3=true then(bM (cZ (((b1000000.f_l)[Int.toNat b1000000.aC]?.getD (aG.mk 0 0 [])).fD) 3 b1000000) fun r4 =>
 some (.inr (r4.1,r4.2)))
 else(bM ((bif (decide ((((b1000000.f_l)[Int.toNat b1000000.aC]?.getD (aG.mk 0 0 [])).bE)<v1)) then true else(r1.2.2==0)):Bool) fun x5 =>
 if x5=true then(some (.inl (b4,b5,b1000000)))
 else((dF R_block_reader_block__o0_s2 n v1 r1.1 r1.2.1 (!(r1.2.1==[])) b4 b5 ((b1000000.f_l)[Int.toNat b1000000.aC]?.getD (aG.mk 0 0 [])) (af.mk 0 [] [] []) (au.mk b1000000.f_l (IntKind.wrap .i64 (b1000000.aC+1)) b1000000.mF b1000000.f_e)).bind fun o6 =>
 if(decide ((List.length b5.av+List.length ([r1.1]:Ls))*(16+1)<=limit))=true then(if(decide ((List.length b5.ai+List.length ([o6.1]:List (af)))*(72+1)<=limit))=true then(cy R_block_reader_block__o0_s2 n v1 k b4 (af.mk b5.aD b5.aI (b5.av++([r1.1]:Ls)) (b5.ai++([o6.1]:List (af)))) o6.2) else none) else none))) else none)
 else(some (.inl (b4,b5,b1000000)))
theorem oI(R_block_reader_block__o0_s2:au->Option (af×au))(hR_block_reader_block__o0_s2:u6 R_block_reader_block__o0_s2)(n:Nat)(v1:Int)(k:Nat):∀(b4:af)(b5:af)(b1000000:au)(o:Sum (af×af×au) (af×au)),cy R_block_reader_block__o0_s2 n v1 k b4 b5 b1000000=some o->(Sum.elim (fun s=>To 114 F0 w0 [(4,.own 4 0),(5,.own 5 0)] [(4,26,qc6 s.1),(5,26,cH 4302 4303 s.2.1),(4302,9,[rc2 s.2.1.av]),(4303,26,[aP s.2.1.ai]),(504000,50,[aK s.2.2.f_l]),(1000000,46,aM 504000 s.2.2)] (.exit 0) Q) (fun s=>To 114 F0 w0 [(4,.own 4 0)] [(4,26,qc6 s.1),(504000,50,[aK s.2.f_l]),(1000000,46,aM 504000 s.2)] .ret Q)) o->WL Tryz.prog 114 F0 w0 [(0,.own 1000000 0),(1,vi v1),(4,.own 4 0),(5,.own 5 0)] [(4,26,qc6 b4),(5,26,cH 4302 4303 b5),(4302,9,[rc2 b5.av]),(4303,26,[aP b5.ai]),(dM b1000000),(fH b1000000)] (cI (cI (cA (cB (cB (cI (cB (cF Tryz.f56)))))))) Q:=by
 induction k with
 |zero=>intro b4 b5 b1000000 o h;cases h
 |succ k ih =>
  intro b4 b5 b1000000 o h hQ
  rw[cy] at h
  refine WL.round (Wp.seq (Wp.seq (Wp.dP hm hΓ [] [0,1,4,5,28] [4,5,4302,4303,504000,1000000] (K':=[(0,.own 1000000 0),(1,vi v1),(4,.own 4 0),(5,.own 5 0),(28,vb (KU b1000000))]) (L':=[(4,26,qc6 b4),(5,26,cH 4302 4303 b5),(4302,9,[rc2 b5.av]),(4303,26,[aP b5.ai]),(dM b1000000),(fH b1000000)]) (ob:=[]) (by kernel_rfl) aj.nil (To.ah (cn h (fun h=>?_) (fun h=>?_))))))
  ·refine Wp.skip (To.ah (Wp.block (Wp.seq ?_)))
   obtain⟨hc9,h⟩:=aF h
   refine Wp.dP hm hΓ [] [0,1,4,5,6] [4,5,6,4302,4303,504000,1000000] (K':=[(0,.own 1000000 0),(1,vi v1),(4,.own 4 0),(5,.own 5 0),(6,.own 6 0)]) (L':=[(4,26,qc6 b4),(5,26,cH 4302 4303 b5),(mB b1000000),(4302,9,[rc2 b5.av]),(4303,26,[aP b5.ai]),(dM b1000000),(fH b1000000)]) (ob:=[(vM b1000000)=true,(vM b1000000)=true]) (by kernel_rfl) (aj.cons hc9 (aj.cons hc9 aj.nil)) (To.ah (Wp.seq ?_))
   obtain⟨r1,hr1,h⟩:=ay h
   refine rc [] 2 [0,1,4,5,6,7,8,9] [4,5,6,4302,4303,504000,1000000] [(0,.own 1000000 0),(1,vi v1),(4,.own 4 0),(5,.own 5 0),(6,.own 6 0),(7,.str r1.1),(8,.str r1.2.1),(9,vi r1.2.2)] [(4,26,qc6 b4),(5,26,cH 4302 4303 b5),(mB b1000000),(4302,9,[rc2 b5.av]),(4303,26,[aP b5.ai]),(dM b1000000),(fH b1000000)] (tq n ((kZ b1000000).aI) _ hr1) (To.ah (Wp.seq (Wp.block (Wp.seq ?_))))
   obtain⟨r2,hr2,h⟩:=ay h
   obtain⟨x3,hx3,h⟩:=aW h
   refine rr [] [(19,vb r2)] [] [0,1,4,5,6,7,8,9,46] [4,5,6,4302,4303,504000,1000000] [(0,.own 1000000 0),(1,vi v1),(4,.own 4 0),(5,.own 5 0),(6,.own 6 0),(7,.str r1.1),(8,.str r1.2.1),(9,vi r1.2.2),(46,vb (bif (Iz b1000000 v1) then true else(bif (((kZ b1000000).bE)==v1) then(bif (decide (r1.2.2<0)) then true else(bif (decide (r1.2.2>0)) then r2 else false)) else false)))] [(4,26,qc6 b4),(5,26,cH 4302 4303 b5),(mB b1000000),(4302,9,[rc2 b5.av]),(4303,26,[aP b5.ai]),(dM b1000000),(fH b1000000)] [((((decide (r1.2.2>0))==true)&&(((decide (r1.2.2<0))==false)&&(((((kZ b1000000).bE)==v1)==true)&&((Iz b1000000 v1)==false))))=true->CX Tryz.prog 88 [ls b5.av,.str r1.1] (vb r2))] (aj.cons (fun hg=>cx (Gp n b5.av r1.1 _ (iq hg hr2))) aj.nil) (To.eq (K':=[(0,.own 1000000 0),(1,vi v1),(4,.own 4 0),(5,.own 5 0),(6,.own 6 0),(7,.str r1.1),(8,.str r1.2.1),(9,vi r1.2.2),(46,vb x3)]) (L':=[(4,26,qc6 b4),(5,26,cH 4302 4303 b5),(mB b1000000),(4302,9,[rc2 b5.av]),(4303,26,[aP b5.ai]),(dM b1000000),(fH b1000000)]) (by cases hx3;rfl) (by cases hx3;rfl) (To.ah (cn h (fun h=>?_) (fun h=>?_))))
   ·refine Wp.seq ?_
    obtain⟨r4,hr4,h⟩:=aW h
    refine rb [] 3 ⟨[(1000000,1000000),(1010000,504000)],[(200,504000),(1000000,1000000)],[.own 1000000 0,vi ((kZ b1000000).fD),vi 3],[(qS b1000000),(rZ b1000000)],.agg (qc6 r4.1),[(200,50,[aK r4.2.f_l]),(1000000,46,aM 200 r4.2)]⟩ [4] [4,504000,1000000] [(4,.own 4 0)] [(4,26,qc6 r4.1),(504000,50,[aK r4.2.f_l]),(1000000,46,aM 504000 r4.2)] ((dN ((kZ b1000000).fD) 3 b1000000 _ hr4)) (To.ah (Wp.ret (To.aR (To.aL (To.aR (To.aL ?_))))))
    cases h
    exact hQ
   ·refine Wp.seq ?_
    obtain⟨x5,hx5,h⟩:=aW h
    refine rg [0,1,4,5,6,7,8,75] [4,5,6,4302,4303,504000,1000000] [(0,.own 1000000 0),(1,vi v1),(4,.own 4 0),(5,.own 5 0),(6,.own 6 0),(7,.str r1.1),(8,.str r1.2.1),(75,vb (bif (decide (((kZ b1000000).bE)<v1)) then true else(r1.2.2==0)))] [(4,26,qc6 b4),(5,26,cH 4302 4303 b5),(mB b1000000),(4302,9,[rc2 b5.av]),(4303,26,[aP b5.ai]),(dM b1000000),(fH b1000000)] (To.eq (K':=[(0,.own 1000000 0),(1,vi v1),(4,.own 4 0),(5,.own 5 0),(6,.own 6 0),(7,.str r1.1),(8,.str r1.2.1),(75,vb x5)]) (L':=[(4,26,qc6 b4),(5,26,cH 4302 4303 b5),(mB b1000000),(4302,9,[rc2 b5.av]),(4303,26,[aP b5.ai]),(dM b1000000),(fH b1000000)]) (by cases hx5;rfl) (by cases hx5;rfl) (To.ah (cn h (fun h=>?_) (fun h=>?_))))
    ·refine Wp.exit (To.vO (by decide) (To.bU (To.vO (by decide) (To.bU (kt [4,5] [4,5,4302,4303,504000,1000000] [(4,.own 4 0),(5,.own 5 0)] [(4,26,qc6 b4),(5,26,cH 4302 4303 b5),(4302,9,[rc2 b5.av]),(4303,26,[aP b5.ai]),(dM b1000000),(fH b1000000)] ?_)))))
     cases h
     exact hQ
    ·refine Wp.skip (To.aS (To.ah (Wp.seq (rg [0,1,4,5,6,7,8] [4,5,6,4302,4303,504000,1000000] [(0,.own 1000000 0),(1,vi v1),(4,.own 4 0),(5,.own 5 0),(6,.own 6 0),(7,.str r1.1),(8,.str r1.2.1)] [(4,26,qc6 b4),(5,26,cH 4302 4303 b5),(mB b1000000),(4302,9,[rc2 b5.av]),(4303,26,[aP b5.ai]),(dM b1000000),(xw b1000000)] (To.ah (Wp.seq (rg [0,1,4,5,6,7,8,10] [4,5,6,10,4302,4303,504000,1000000] [(0,.own 1000000 0),(1,vi v1),(4,.own 4 0),(5,.own 5 0),(6,.own 6 0),(7,.str r1.1),(8,.str r1.2.1),(10,.own 10 0)] [(4,26,qc6 b4),(5,26,cH 4302 4303 b5),(mB b1000000),(10,26,[vi 0,.str [],.val (.slice none 0 0),.val (.slice none 0 0)]),(4302,9,[rc2 b5.av]),(4303,26,[aP b5.ai]),(dM b1000000),(xw b1000000)] (To.ah (Wp.seq (Wp.seq ?_))))))))))
     refine rg [0,1,4,5,6,7,8,10,92] [4,5,6,10,4302,4303,504000,1000000] [(0,.own 1000000 0),(1,vi v1),(4,.own 4 0),(5,.own 5 0),(6,.own 6 0),(7,.str r1.1),(8,.str r1.2.1),(10,.own 10 0),(92,vb (!(r1.2.1==[])))] [(4,26,qc6 b4),(5,26,cH 4302 4303 b5),(mB b1000000),(10,26,[vi 0,.str [],.val (.slice none 0 0),.val (.slice none 0 0)]),(4302,9,[rc2 b5.av]),(4303,26,[aP b5.ai]),(dM b1000000),(xw b1000000)] (To.ah ?_)
     obtain⟨o6,ho6,h⟩:=ay h
     refine kw [0,1,4,5,6,7,8,10,92] [4,5,6,10,4302,4303,504000,1000000] [(0,.own 1000000 0),(1,vi v1),(4,.own 4 0),(5,.own 5 0),(6,.own 6 0),(7,.str r1.1),(8,.str r1.2.1),(10,.own 10 0),(92,vb (!(r1.2.1==[])))] [(4,26,qc6 b4),(5,26,cH 4302 4303 b5),(mB b1000000),(10,26,[vi 0,.str [],.val (.slice none 0 0),.val (.slice none 0 0)]),(4302,9,[rc2 b5.av]),(4303,26,[aP b5.ai]),(dM b1000000),(xw b1000000)] (Wp.weak (K':=[(0,.own 1000000 0),(1,vi v1),(4,.own 4 0),(5,.own 5 0),(6,.own 6 0),(7,.str r1.1),(8,.str r1.2.1),(10,.own 10 0),(92,vb (!(r1.2.1==[])))]) (L':=[(4,26,qc6 b4),(5,26,cH 4302 4303 b5),(mB b1000000),(10,26,[vi 0,.str [],ls [],tn4 []]),(4302,9,[rc2 b5.av]),(4303,26,[aP b5.ai]),(dM b1000000),(xw b1000000)]) (.cons (.refl _) (.cons (.refl _) (.cons (.refl _) (.cons (.refl _) (.cons (.refl _) (.cons (.refl _) (.cons (.refl _) (.cons (.refl _) (.cons (.refl _) .nil))))))))) (.cons (.cons (.refl _) (.cons (.refl _) (.cons (.refl _) (.cons (.refl _) .nil)))) (.cons (.cons (.refl _) (.cons (.refl _) (.cons (.refl _) (.cons (.refl _) .nil)))) (.cons (.cons (.refl _) (.cons (.refl _) (.cons (.refl _) .nil))) (.cons (.cons (.refl _) (.cons (.refl _) (.cons (.zero _ _) (.cons (.fE _ _ _) .nil)))) (.cons (.cons (.refl _) .nil) (.cons (.cons (.refl _) .nil) (.cons (.cons (.refl _) .nil) (.cons (.cons (.refl _) (.cons (.refl _) (.cons (.refl _) (.cons (.refl _) .nil)))) .nil)))))))) (oG R_block_reader_block__o0_s2 hR_block_reader_block__o0_s2 n v1 r1.1 r1.2.1 (!(r1.2.1==[])) b4 b5 (kZ b1000000) zx3 (I4 b1000000) o6 ho6 (To.ah ?_)))
     obtain⟨hc7,h⟩:=aF h
     obtain⟨hc8,h⟩:=aF h
     refine Wp.qL hm hΓ [] [(3,ls [r1.1]),(4,ls (b5.av++([r1.1]:Ls))),(8,cv [o6.1]),(9,cv (b5.ai++([o6.1]:List (af))))] [] [0,1,4,5,7,10,101,102,103,104,105,106,107,108,109,110,111,112] [4,5,10,104,105,109,110,4302,4303,504000,1000000] [0,1,4,5] [4,5,105,110,504000,1000000] (K':=[(0,.own 1000000 0),(1,vi v1),(4,.own 4 0),(5,.own 5 0)]) (L':=[(4,26,qc6 b4),(5,26,cH 105 110 b5),(105,9,[rc2 (b5.av++([r1.1]:Ls))]),(110,26,[aP (b5.ai++([o6.1]:List (af)))]),(504000,50,[aK o6.2.f_l]),(1000000,46,aM 504000 o6.2)]) (ob:=[(dC 1 [.str r1.1] 1 (ls [r1.1])/\aQ (ls [r1.1])),(decide ((List.length b5.av+List.length ([r1.1]:Ls))*(16+1)<=limit))=true,(eQ [] dc b5.av (List.flatMap dc ([r1.1]:Ls)) (List.length ([r1.1]:Ls)) (ls (b5.av++([r1.1]:Ls)))/\aQ (ls (b5.av++([r1.1]:Ls)))),(dC 4 (qc6 o6.1) 1 (cv [o6.1])/\aQ (cv [o6.1])),(decide ((List.length b5.ai+List.length ([o6.1]:List (af)))*(72+1)<=limit))=true,(eQ zx3 df b5.ai (List.flatMap df ([o6.1]:List (af))) (List.length ([o6.1]:List (af))) (cv (b5.ai++([o6.1]:List (af))))/\aQ (cv (b5.ai++([o6.1]:List (af)))))]) (by kernel_rfl) (by kernel_rfl) (aj.cons (fL (by kernel_rfl) rfl (by kernel_rfl) (cY _)) (aj.cons hc7 (aj.cons (eG rfl rfl (cY _)) (aj.cons (fL (by kernel_rfl) rfl (by kernel_rfl) (bC _)) (aj.cons hc8 (aj.cons (eG rfl rfl (bC _)) aj.nil)))))) (To.aS (nt [0,1,4,5] [4,5,105,110,504000,1000000] [(105,4302),(110,4303)] [0,1,4,5] [4,5,4302,4303,504000,1000000] [(0,.own 1000000 0),(1,vi v1),(4,.own 4 0),(5,.own 5 0)] [(4,26,qc6 b4),(5,26,cH 4302 4303 b5),(4302,9,[rc2 (b5.av++([r1.1]:Ls))]),(4303,26,[aP (b5.ai++([o6.1]:List (af)))]),(504000,50,[aK o6.2.f_l]),(1000000,46,aM 504000 o6.2)] (To.again ?_)))
     exact ih b4 (af.mk b5.aD b5.aI (b5.av++([r1.1]:Ls)) (b5.ai++([o6.1]:List (af)))) o6.2 _ h hQ
  ·refine Wp.exit (To.bU (To.bU (kt [4,5] [4,5,4302,4303,504000,1000000] [(4,.own 4 0),(5,.own 5 0)] [(4,26,qc6 b4),(5,26,cH 4302 4303 b5),(4302,9,[rc2 b5.av]),(4303,26,[aP b5.ai]),(dM b1000000),(fH b1000000)] ?_)))
   cases h
   exact hQ
def iy(R_block_reader_block__o0_s2:au->Option (af×au))(n:Nat)(a1:Int)(h0:au):Option (af×au) :=
 (cy R_block_reader_block__o0_s2 n a1 n (af.mk 0 [] [] []) (af.mk 3 [] [] []) h0).bind fun o1 =>
 (Sum.elim (fun o1=>some (o1.2.1,o1.2.2)) (fun o1=>some (o1.1,o1.2))) o1
theorem qC(R_block_reader_block__o0_s2:au->Option (af×au))(hR_block_reader_block__o0_s2:u6 R_block_reader_block__o0_s2)(n:Nat)(a1:Int)(h0:au)(r:af×au)(h:iy R_block_reader_block__o0_s2 n a1 h0=some r):aV Tryz.prog 56 [.own 1000000 0,vi a1] [(1000000,46,aM 1010000 h0),(1010000,50,[aK h0.f_l])] (.agg (qc6 r.1)) [(200,50,[aK r.2.f_l]),(1000000,46,aM 200 r.2)]:=by
 unfold iy at h
 refine bo Tryz.f56 rfl fun F0 w0=>?_
 refine nw [0,1] [1000000,1010000] [(1010000,504000)] [0,1] [504000,1000000] [(0,.own 1000000 0),(1,vi a1)] [(504000,50,[aK h0.f_l]),(1000000,46,aM 504000 h0)] (Wp.seq (rg [0,1,4] [4,504000,1000000] [(0,.own 1000000 0),(1,vi a1),(4,.own 4 0)] [(4,26,[vi 0,.str [],.val (.slice none 0 0),.val (.slice none 0 0)]),(504000,50,[aK h0.f_l]),(1000000,46,aM 504000 h0)] (To.ah (Wp.scope (Wp.seq (rg [0,1,4,5] [4,5,504000,1000000] [(0,.own 1000000 0),(1,vi a1),(4,.own 4 0),(5,.own 5 0)] [(4,26,[vi 0,.str [],.val (.slice none 0 0),.val (.slice none 0 0)]),(5,26,[vi 3,.str [],.val (.slice none 0 0),.val (.slice none 0 0)]),(504000,50,[aK h0.f_l]),(1000000,46,aM 504000 h0)] (To.ah (Wp.seq (Wp.label (To.ah (Wp.seq (Wp.block ?_))))))))))))
 obtain⟨o1,ho1,h⟩:=ay h
 refine kw [0,1,4,5] [4,5,504000,1000000] [(0,.own 1000000 0),(1,vi a1),(4,.own 4 0),(5,.own 5 0)] [(4,26,[vi 0,.str [],.val (.slice none 0 0),.val (.slice none 0 0)]),(5,26,[vi 3,.str [],.val (.slice none 0 0),.val (.slice none 0 0)]),(504000,50,[aK h0.f_l]),(1000000,46,aM 504000 h0)] (Wp.pre (St.l6 5 2 4302 9 (cY _) (by decide) (by kernel_rfl) (L':=[(4,26,[vi 0,.str [],.val (.slice none 0 0),.val (.slice none 0 0)]),(5,26,[vi 3,.str [],.row 4302,.val (.slice none 0 0)]),(504000,50,[aK h0.f_l]),(1000000,46,aM 504000 h0)]) (by kernel_rfl)) (kw [0,1,4,5] [4,5,4302,504000,1000000] [(0,.own 1000000 0),(1,vi a1),(4,.own 4 0),(5,.own 5 0)] [(4,26,[vi 0,.str [],.val (.slice none 0 0),.val (.slice none 0 0)]),(5,26,[vi 3,.str [],.row 4302,.val (.slice none 0 0)]),(4302,9,[rc1 []]),(504000,50,[aK h0.f_l]),(1000000,46,aM 504000 h0)] (Wp.pre (St.settle (ks:=[4302]) (kk:=[0,1,4,5]) (kl:=[4,5,4302,504000,1000000]) (K':=[(0,.own 1000000 0),(1,vi a1),(4,.own 4 0),(5,.own 5 0)]) (L':=[(4,26,[vi 0,.str [],.val (.slice none 0 0),.val (.slice none 0 0)]),(5,26,[vi 3,.str [],.row 4302,.val (.slice none 0 0)]),(4302,9,[rc2 []]),(504000,50,[aK h0.f_l]),(1000000,46,aM 504000 h0)]) (by kernel_rfl)) (Wp.pre (St.l6 5 3 4303 26 (bC _) (by decide) (by kernel_rfl) (L':=[(4,26,[vi 0,.str [],.val (.slice none 0 0),.val (.slice none 0 0)]),(5,26,[vi 3,.str [],.row 4302,.row 4303]),(4302,9,[rc2 []]),(504000,50,[aK h0.f_l]),(1000000,46,aM 504000 h0)]) (by kernel_rfl)) (kw [0,1,4,5] [4,5,4302,4303,504000,1000000] [(0,.own 1000000 0),(1,vi a1),(4,.own 4 0),(5,.own 5 0)] [(4,26,[vi 0,.str [],.val (.slice none 0 0),.val (.slice none 0 0)]),(5,26,[vi 3,.str [],.row 4302,.row 4303]),(4302,9,[rc2 []]),(4303,26,[aP []]),(504000,50,[aK h0.f_l]),(1000000,46,aM 504000 h0)] (Wp.weak (K':=[(0,.own 1000000 0),(1,vi a1),(4,.own 4 0),(5,.own 5 0)]) (L':=[(4,26,[vi 0,.str [],ls [],tn4 []]),(5,26,[vi 3,.str [],.row 4302,.row 4303]),(4302,9,[rc2 []]),(4303,26,[aP []]),(504000,50,[aK h0.f_l]),(1000000,46,aM 504000 h0)]) (.cons (.refl _) (.cons (.refl _) (.cons (.refl _) (.cons (.refl _) .nil)))) (.cons (.cons (.refl _) (.cons (.refl _) (.cons (.zero _ _) (.cons (.fE _ _ _) .nil)))) (.cons (.cons (.refl _) (.cons (.refl _) (.cons (.refl _) (.cons (.refl _) .nil)))) (.cons (.cons (.refl _) .nil) (.cons (.cons (.refl _) .nil) (.cons (.cons (.refl _) .nil) (.cons (.cons (.refl _) (.cons (.refl _) (.cons (.refl _) (.cons (.refl _) .nil)))) .nil)))))) (Wp.fP (oI R_block_reader_block__o0_s2 hR_block_reader_block__o0_s2 n a1 n zx3 (af.mk 3 [] [] []) h0 o1 ho1 ?_))))))))
 rcases o1 with o1|o1
 ·replace h:=fZ h
  refine To.dW (To.ah (Wp.seq (rg [4] [4,4302,4303,504000,1000000] [(4,.own 4 0)] [(4,26,cH 4302 4303 o1.2.1),(4302,9,[rc2 o1.2.1.av]),(4303,26,[aP o1.2.1.ai]),(504000,50,[aK o1.2.2.f_l]),(1000000,46,aM 504000 o1.2.2)] (To.ah (Wp.ret (To.scope (.inr (.inl rfl)) (kt [4] [4,4302,4303,504000,1000000] [(4,.own 4 0)] [(4,26,cH 4302 4303 o1.2.1),(4302,9,[rc2 o1.2.1.av]),(4303,26,[aP o1.2.1.ai]),(504000,50,[aK o1.2.2.f_l]),(1000000,46,aM 504000 o1.2.2)] (To.pre (St.settle (ks:=[4303]) (kk:=[4]) (kl:=[4,4302,4303,504000,1000000]) (K':=[(4,.own 4 0)]) (L':=[(4,26,cH 4302 4303 o1.2.1),(4302,9,[rc2 o1.2.1.av]),(4303,26,[qf o1.2.1.ai]),(504000,50,[aK o1.2.2.f_l]),(1000000,46,aM 504000 o1.2.2)]) (by kernel_rfl)) (To.pre (St.BG [4] (L':=[(4,26,FT o1.2.1),(4302,9,[rc2 o1.2.1.av]),(4303,26,[qf o1.2.1.ai]),(504000,50,[aK o1.2.2.f_l]),(1000000,46,aM 504000 o1.2.2)]) (by kernel_rfl)) (To.weak (K':=[(4,.own 4 0)]) (L':=[(4,26,qc6 o1.2.1),(4302,9,[rc2 o1.2.1.av]),(4303,26,[qf o1.2.1.ai]),(504000,50,[aK o1.2.2.f_l]),(1000000,46,aM 504000 o1.2.2)]) (.cons (.refl _) .nil) (.cons (.cons (.refl _) (.cons (.refl _) (.cons (.refl _) (.cons (.close _ _ _ _) .nil)))) (.cons (.cons (.refl _) .nil) (.cons (.cons (.refl _) .nil) (.cons (.cons (.refl _) .nil) (.cons (.cons (.refl _) (.cons (.refl _) (.cons (.refl _) (.cons (.refl _) .nil)))) .nil))))) ?_))))))))))
  refine nt [4] [4,504000,1000000] [(504000,200)] [4] [4,200,1000000] [(4,.own 4 0)] [(4,26,qc6 o1.2.1),(200,50,[aK o1.2.2.f_l]),(1000000,46,aM 200 o1.2.2)] ?_
  cases h
  exact To.dL hΓ [200,1000000] (by kernel_rfl) (by kernel_rfl)
 ·replace h:=gv h
  refine To.aR (To.aL (To.scope (.inr (.inl rfl)) (nt [4] [4,504000,1000000] [(504000,200)] [4] [4,200,1000000] [(4,.own 4 0)] [(4,26,qc6 o1.1),(200,50,[aK o1.2.f_l]),(1000000,46,aM 200 o1.2)] ?_)))
  cases h
  exact To.dL hΓ [200,1000000] (by kernel_rfl) (by kernel_rfl)
def fA(R_block_reader_block__o0_s2:au->Option (af×au))(n:Nat)(v7:Int)(b2:af)(b3:aG)(b4:af)(b1000000:au):Option (Sum (af×af×au) (af×au)) :=
 if(fe b3.aI)=true then((jr R_block_reader_block__o0_s2 n b3.bE b1000000).bind fun r2 =>
 some (.inl (b2,r2.1,r2.2)))
 else(if(decide (v7>0))=true then((iy R_block_reader_block__o0_s2 n b3.bE b1000000).bind fun r3 =>
 some (.inl (b2,r3.1,r3.2)))
 else(if(decide (v7<0))=true then(bM (cZ b3.fD 3 b1000000) fun r4 =>
 some (.inr (r4.1,r4.2)))
 else((dE n b3.fD b3.aI (au.mk b1000000.f_l (IntKind.wrap .i64 (b1000000.aC+1)) b1000000.mF b1000000.f_e)).bind fun r5 =>
 some (.inl (b2,r5.1,r5.2)))))
theorem nG(R_block_reader_block__o0_s2:au->Option (af×au))(hR_block_reader_block__o0_s2:u6 R_block_reader_block__o0_s2)(n:Nat)(v7:Int)(b2:af)(b3:aG)(b4:af)(b1000000:au)(o:Sum (af×af×au) (af×au))(h:fA R_block_reader_block__o0_s2 n v7 b2 b3 b4 b1000000=some o)(hQ:(Sum.elim (fun s=>To 61 F0 w0 [(2,.own 2 0),(4,.own 4 0)] [(2,26,qc6 s.1),(4,26,qc6 s.2.1),(504000,50,[aK s.2.2.f_l]),(1000000,46,aM 504000 s.2.2)] .normal Q) (fun s=>To 61 F0 w0 [(2,.own 2 0)] [(2,26,qc6 s.1),(504000,50,[aK s.2.f_l]),(1000000,46,aM 504000 s.2)] .ret Q)) o):Wp Tryz.prog 61 F0 w0 [(0,.own 1000000 0),(2,.own 2 0),(3,.own 3 0),(4,.own 4 0),(7,vi v7)] [(2,26,qc6 b2),(3,50,lq b3),(4,26,qc6 b4),(dM b1000000),(fH b1000000)] (cB (cA (cB (cB (cB (cF Tryz.f24)))))) Q:=by
 unfold fA at h
 refine Wp.block (Wp.seq (rc [] 2 [0,2,3,4,7,38] [2,3,4,504000,1000000] [(0,.own 1000000 0),(2,.own 2 0),(3,.own 3 0),(4,.own 4 0),(7,vi v7),(38,vb (fe b3.aI))] [(2,26,qc6 b2),(3,50,lq b3),(4,26,qc6 b4),(dM b1000000),(fH b1000000)] (ot b3.aI _ rfl) (To.ah (cn h (fun h=>?_) (fun h=>?_)))))
 ·obtain⟨r2,hr2,h⟩:=ay h
  refine rb [] 3 ⟨[(1000000,1000000),(1010000,504000)],[(200,504000),(1000000,1000000)],[.own 1000000 0,vi b3.bE],[(qS b1000000),(rZ b1000000)],.agg (qc6 r2.1),[(200,50,[aK r2.2.f_l]),(1000000,46,aM 200 r2.2)]⟩ [2,4] [2,4,504000,1000000] [(2,.own 2 0),(4,.own 4 0)] [(2,26,qc6 b2),(4,26,qc6 r2.1),(504000,50,[aK r2.2.f_l]),(1000000,46,aM 504000 r2.2)] ((ql R_block_reader_block__o0_s2 hR_block_reader_block__o0_s2 n b3.bE b1000000 _ hr2)) (To.aS ?_)
  cases h
  exact hQ
 ·refine Wp.seq (rg [0,2,3,4,7,46] [2,3,4,504000,1000000] [(0,.own 1000000 0),(2,.own 2 0),(3,.own 3 0),(4,.own 4 0),(7,vi v7),(46,vb (decide (v7>0)))] [(2,26,qc6 b2),(3,50,lq b3),(4,26,qc6 b4),(dM b1000000),(fH b1000000)] (To.ah (cn h (fun h=>?_) (fun h=>?_))))
  ·obtain⟨r3,hr3,h⟩:=ay h
   refine rb [] 3 ⟨[(1000000,1000000),(1010000,504000)],[(200,504000),(1000000,1000000)],[.own 1000000 0,vi b3.bE],[(qS b1000000),(rZ b1000000)],.agg (qc6 r3.1),[(200,50,[aK r3.2.f_l]),(1000000,46,aM 200 r3.2)]⟩ [2,4] [2,4,504000,1000000] [(2,.own 2 0),(4,.own 4 0)] [(2,26,qc6 b2),(4,26,qc6 r3.1),(504000,50,[aK r3.2.f_l]),(1000000,46,aM 504000 r3.2)] ((qC R_block_reader_block__o0_s2 hR_block_reader_block__o0_s2 n b3.bE b1000000 _ hr3)) (To.aS ?_)
   cases h
   exact hQ
  ·refine Wp.seq (rg [0,2,3,4,53] [2,3,4,504000,1000000] [(0,.own 1000000 0),(2,.own 2 0),(3,.own 3 0),(4,.own 4 0),(53,vb (decide (v7<0)))] [(2,26,qc6 b2),(3,50,lq b3),(4,26,qc6 b4),(dM b1000000),(fH b1000000)] (To.ah (cn h (fun h=>?_) (fun h=>?_))))
   ·refine Wp.seq ?_
    obtain⟨r4,hr4,h⟩:=aW h
    refine rb [] 3 ⟨[(1000000,1000000),(1010000,504000)],[(200,504000),(1000000,1000000)],[.own 1000000 0,vi b3.fD,vi 3],[(qS b1000000),(rZ b1000000)],.agg (qc6 r4.1),[(200,50,[aK r4.2.f_l]),(1000000,46,aM 200 r4.2)]⟩ [2] [2,504000,1000000] [(2,.own 2 0)] [(2,26,qc6 r4.1),(504000,50,[aK r4.2.f_l]),(1000000,46,aM 504000 r4.2)] ((dN b3.fD 3 b1000000 _ hr4)) (To.ah (Wp.ret (To.aR ?_)))
    cases h
    exact hQ
   ·refine Wp.seq (rg [0,2,3,4] [2,3,4,504000,1000000] [(0,.own 1000000 0),(2,.own 2 0),(3,.own 3 0),(4,.own 4 0)] [(2,26,qc6 b2),(3,50,lq b3),(4,26,qc6 b4),(dM b1000000),(xw b1000000)] (To.ah ?_))
    obtain⟨r5,hr5,h⟩:=ay h
    refine rb [] 5 ⟨[(1000000,1000000),(1010000,504000)],[(200,504000),(1000000,1000000)],[.own 1000000 0,vi b3.fD,.str b3.aI],[(Iq b1000000),(rZ b1000000)],.agg (qc6 r5.1),[(200,50,[aK r5.2.f_l]),(1000000,46,aM 200 r5.2)]⟩ [2,4] [2,4,504000,1000000] [(2,.own 2 0),(4,.own 4 0)] [(2,26,qc6 b2),(4,26,qc6 r5.1),(504000,50,[aK r5.2.f_l]),(1000000,46,aM 504000 r5.2)] ((lF n b3.fD b3.aI (I4 b1000000) _ hr5)) (To.aS ?_)
    cases h
    exact hQ
def dO(R_block_reader_block__o0_s2:au->Option (af×au))(n:Nat)(h0:au):Option (af×au) :=
 if(decide (0<=h0.aC/\h0.aC<(List.length h0.f_l:Int)))=true then((jN n (((h0.f_l)[Int.toNat h0.aC]?.getD (aG.mk 0 0 [])).aI)).bind fun r1 =>
 (fA R_block_reader_block__o0_s2 n r1.2.2 (af.mk 0 [] [] []) ((h0.f_l)[Int.toNat h0.aC]?.getD (aG.mk 0 0 [])) (af.mk 0 [] [] []) h0).bind fun o2 =>
 (Sum.elim (fun o2=>some (o2.2.1,o2.2.2)) (fun o2=>some (o2.1,o2.2))) o2) else none
theorem nP(R_block_reader_block__o0_s2:au->Option (af×au))(hR_block_reader_block__o0_s2:u6 R_block_reader_block__o0_s2)(n:Nat)(h0:au)(r:af×au)(h:dO R_block_reader_block__o0_s2 n h0=some r):aV Tryz.prog 24 [.own 1000000 0] [(1000000,46,aM 1010000 h0),(1010000,50,[aK h0.f_l])] (.agg (qc6 r.1)) [(200,50,[aK r.2.f_l]),(1000000,46,aM 200 r.2)]:=by
 unfold dO at h
 refine bo Tryz.f24 rfl fun F0 w0=>?_
 refine nw [0] [1000000,1010000] [(1010000,504000)] [0] [504000,1000000] [(0,.own 1000000 0)] [(504000,50,[aK h0.f_l]),(1000000,46,aM 504000 h0)] (Wp.seq (rg [0,2] [2,504000,1000000] [(0,.own 1000000 0),(2,.own 2 0)] [(2,26,[vi 0,.str [],.val (.slice none 0 0),.val (.slice none 0 0)]),(504000,50,[aK h0.f_l]),(1000000,46,aM 504000 h0)] (To.ah (Wp.seq ?_))))
 obtain⟨hc3,h⟩:=aF h
 refine Wp.dP hm hΓ [] [0,2,3] [2,3,504000,1000000] (K':=[(0,.own 1000000 0),(2,.own 2 0),(3,.own 3 0)]) (L':=[(2,26,[vi 0,.str [],.val (.slice none 0 0),.val (.slice none 0 0)]),(3,50,[vi (((h0.f_l)[Int.toNat h0.aC]?.getD eU).fD),vi (((h0.f_l)[Int.toNat h0.aC]?.getD eU).bE),.str (((h0.f_l)[Int.toNat h0.aC]?.getD eU).aI)]),(504000,50,[aK h0.f_l]),(1000000,46,aM 504000 h0)]) (ob:=[(decide (0<=h0.aC/\h0.aC<(List.length h0.f_l:Int)))=true,(decide (0<=h0.aC/\h0.aC<(List.length h0.f_l:Int)))=true]) (by kernel_rfl) (aj.cons hc3 (aj.cons hc3 aj.nil)) (To.ah (Wp.seq (rg [0,2,3,4] [2,3,4,504000,1000000] [(0,.own 1000000 0),(2,.own 2 0),(3,.own 3 0),(4,.own 4 0)] [(2,26,[vi 0,.str [],.val (.slice none 0 0),.val (.slice none 0 0)]),(3,50,[vi (((h0.f_l)[Int.toNat h0.aC]?.getD eU).fD),vi (((h0.f_l)[Int.toNat h0.aC]?.getD eU).bE),.str (((h0.f_l)[Int.toNat h0.aC]?.getD eU).aI)]),(4,26,[vi 0,.str [],.val (.slice none 0 0),.val (.slice none 0 0)]),(504000,50,[aK h0.f_l]),(1000000,46,aM 504000 h0)] (To.ah (Wp.seq (Wp.seq ?_))))))
 obtain⟨r1,hr1,h⟩:=ay h
 refine rc [] 2 [0,2,3,4,7] [2,3,4,504000,1000000] [(0,.own 1000000 0),(2,.own 2 0),(3,.own 3 0),(4,.own 4 0),(7,vi r1.2.2)] [(2,26,[vi 0,.str [],.val (.slice none 0 0),.val (.slice none 0 0)]),(3,50,[vi (((h0.f_l)[Int.toNat h0.aC]?.getD eU).fD),vi (((h0.f_l)[Int.toNat h0.aC]?.getD eU).bE),.str (((h0.f_l)[Int.toNat h0.aC]?.getD eU).aI)]),(4,26,[vi 0,.str [],.val (.slice none 0 0),.val (.slice none 0 0)]),(504000,50,[aK h0.f_l]),(1000000,46,aM 504000 h0)] (tq n (((h0.f_l)[Int.toNat h0.aC]?.getD eU).aI) _ hr1) (To.ah ?_)
 obtain⟨o2,ho2,h⟩:=ay h
 refine kw [0,2,3,4,7] [2,3,4,504000,1000000] [(0,.own 1000000 0),(2,.own 2 0),(3,.own 3 0),(4,.own 4 0),(7,vi r1.2.2)] [(2,26,[vi 0,.str [],.val (.slice none 0 0),.val (.slice none 0 0)]),(3,50,[vi (((h0.f_l)[Int.toNat h0.aC]?.getD eU).fD),vi (((h0.f_l)[Int.toNat h0.aC]?.getD eU).bE),.str (((h0.f_l)[Int.toNat h0.aC]?.getD eU).aI)]),(4,26,[vi 0,.str [],.val (.slice none 0 0),.val (.slice none 0 0)]),(504000,50,[aK h0.f_l]),(1000000,46,aM 504000 h0)] (Wp.weak (K':=[(0,.own 1000000 0),(2,.own 2 0),(3,.own 3 0),(4,.own 4 0),(7,vi r1.2.2)]) (L':=[(2,26,[vi 0,.str [],ls [],tn4 []]),(3,50,[vi (((h0.f_l)[Int.toNat h0.aC]?.getD eU).fD),vi (((h0.f_l)[Int.toNat h0.aC]?.getD eU).bE),.str (((h0.f_l)[Int.toNat h0.aC]?.getD eU).aI)]),(4,26,[vi 0,.str [],ls [],tn4 []]),(504000,50,[aK h0.f_l]),(1000000,46,aM 504000 h0)]) (.cons (.refl _) (.cons (.refl _) (.cons (.refl _) (.cons (.refl _) (.cons (.refl _) .nil))))) (.cons (.cons (.refl _) (.cons (.refl _) (.cons (.zero _ _) (.cons (.fE _ _ _) .nil)))) (.cons (.cons (.refl _) (.cons (.refl _) (.cons (.refl _) .nil))) (.cons (.cons (.refl _) (.cons (.refl _) (.cons (.zero _ _) (.cons (.fE _ _ _) .nil)))) (.cons (.cons (.refl _) .nil) (.cons (.cons (.refl _) (.cons (.refl _) (.cons (.refl _) (.cons (.refl _) .nil)))) .nil))))) (nG R_block_reader_block__o0_s2 hR_block_reader_block__o0_s2 n r1.2.2 zx3 ((h0.f_l)[Int.toNat h0.aC]?.getD eU) zx3 h0 o2 ho2 ?_))
 rcases o2 with o2|o2
 ·replace h:=fZ h
  refine To.ah (Wp.seq (rg [2] [2,504000,1000000] [(2,.own 2 0)] [(2,26,qc6 o2.2.1),(504000,50,[aK o2.2.2.f_l]),(1000000,46,aM 504000 o2.2.2)] (To.ah (Wp.ret (nt [2] [2,504000,1000000] [(504000,200)] [2] [2,200,1000000] [(2,.own 2 0)] [(2,26,qc6 o2.2.1),(200,50,[aK o2.2.2.f_l]),(1000000,46,aM 200 o2.2.2)] ?_)))))
  cases h
  exact To.dL hΓ [200,1000000] (by kernel_rfl) (by kernel_rfl)
 ·replace h:=gv h
  refine To.aL (nt [2] [2,504000,1000000] [(504000,200)] [2] [2,200,1000000] [(2,.own 2 0)] [(2,26,qc6 o2.1),(200,50,[aK o2.2.f_l]),(1000000,46,aM 200 o2.2)] ?_)
  cases h
  exact To.dL hΓ [200,1000000] (by kernel_rfl) (by kernel_rfl)
def cO:Nat->au->Option (af×au)
 |0=>fun _=>none
 |n+1=>dO (cO n) n
theorem ox(n:Nat):∀(h0:au)(r:af×au),cO n h0=some r->aV Tryz.prog 24 [.own 1000000 0] [(1000000,46,aM 1010000 h0),(1010000,50,[aK h0.f_l])] (.agg (qc6 r.1)) [(200,50,[aK r.2.f_l]),(1000000,46,aM 200 r.2)]:=by
 induction n with
 |zero=>intro h0 r h;cases h
 |succ n ih=>exact fun h0 r h=>nP (cO n) ih n h0 r h
def oK(n:Nat)(v46:Bool)(b2:af)(b9:af)(b27:au):Option (au) :=
 if v46=true then(if(decide (0<=b27.aC/\b27.aC<(List.length b27.f_l:Int)))=true then(bM (cZ (((b27.f_l)[Int.toNat b27.aC]?.getD (aG.mk 0 0 [])).fD) 3 b27) fun r3 =>
 some r3.2) else none)
 else some b27
abbrev Gn(x0:au):=((x0.f_l)[Int.toNat x0.aC]?.getD eU)
theorem wQ(n:Nat)(v46:Bool)(b2:af)(b9:af)(b27:au)(o:au)(h:oK n v46 b2 b9 b27=some o)(hQ:To 81 F0 w0 [(2,.own 2 0),(8,.own 27 0),(9,.own 9 0)] [(2,26,qc6 b2),(9,26,qc6 b9),(27,46,aM 5620 o),(5620,50,[aK o.f_l])] .normal Q):Wp Tryz.prog 81 F0 w0 [(2,.own 2 0),(8,.own 27 0),(9,.own 9 0),(46,vb v46)] [(2,26,qc6 b2),(9,26,qc6 b9),(27,46,aM 5620 b27),(5620,50,[aK b27.f_l])] (cB (cA (cB (cB (cB (cB (cB (cB (cF Tryz.f9))))))))) Q:=by
 unfold oK at h
 refine cn h (fun h=>?_) (fun h=>?_)
 ·obtain⟨hc4,h⟩:=aF h
  obtain⟨r3,hr3,h⟩:=aW h
  refine Wp.qL hm hΓ [] [] [(12,⟨[(1000000,27),(1010000,5620)],[(200,5620),(1000000,27)],[.own 1000000 0,vi ((Gn b27).fD),vi 3],[(qS b27),(1010000,50,[aK b27.f_l])],.agg (qc6 r3.1),[(200,50,[aK r3.2.f_l]),(1000000,46,aM 200 r3.2)]⟩)] [2,8,9,46,47,48,49,50,51,52,53,54,55,56,57,58,59] [2,9,27,5620] [2,8,9] [2,9,27,5620] (K':=[(2,.own 2 0),(8,.own 27 0),(9,.own 9 0)]) (L':=[(2,26,qc6 b2),(9,26,qc6 b9),(27,46,aM 5620 r3.2),(5620,50,[aK r3.2.f_l])]) (ob:=[(vM b27)=true,(vM b27)=true,qp (aV Tryz.prog) 25 [.own 27 0,vi ((Gn b27).fD),vi 3] [some (46,aM 5620 b27),some (50,[aK b27.f_l])] ⟨[(1000000,27),(1010000,5620)],[(200,5620),(1000000,27)],[.own 1000000 0,vi ((Gn b27).fD),vi 3],[(qS b27),(1010000,50,[aK b27.f_l])],.agg (qc6 r3.1),[(200,50,[aK r3.2.f_l]),(1000000,46,aM 200 r3.2)]⟩]) (by kernel_rfl) (by kernel_rfl) (aj.cons hc4 (aj.cons hc4 (aj.cons (⟨(dN ((Gn b27).fD) 3 b27 _ hr3),by kernel_rfl,by kernel_rfl⟩) aj.nil))) ?_
  refine kt [2,8,9] [2,9,27,5620] [(2,.own 2 0),(8,.own 27 0),(9,.own 9 0)] [(2,26,qc6 b2),(9,26,qc6 b9),(27,46,aM 5620 r3.2),(5620,50,[aK r3.2.f_l])] ?_
  cases h
  exact hQ
 ·refine Wp.skip (kt [2,8,9] [2,9,27,5620] [(2,.own 2 0),(8,.own 27 0),(9,.own 9 0)] [(2,26,qc6 b2),(9,26,qc6 b9),(27,46,aM 5620 b27),(5620,50,[aK b27.f_l])] ?_)
  cases h
  exact hQ
def kU(n:Nat)(a0:Bs):Option (af×Int×Int) :=
 (nI n a0).bind fun r1 =>
 if(r1.2.2 != 0)=true then(some ((af.mk 0 [] [] []),r1.2.1,r1.2.2))
 else(if((List.length r1.1:Int)==0)=true then(some ((af.mk 0 [] [] []),0,0))
 else((cO n (au.mk r1.1 0 0 0)).bind fun r2 =>
 (oK n (bif (r2.2.f_e==0) then(decide (r2.2.aC<(List.length r2.2.f_l:Int))) else false) (af.mk 0 [] [] []) r2.1 r2.2).bind fun o3 =>
 if(o3.f_e != 0)=true then(some ((af.mk 0 [] [] []),o3.mF,o3.f_e))
 else((ku n r2.1).bind fun r4 =>
 if(!r4)=true then(some ((af.mk 0 [] [] []),0,9))
 else(some (r2.1,0,0)))))
theorem Ah(n:Nat)(a0:Bs)(r:af×Int×Int)(h:kU n a0=some r):aT Tryz.prog 9 [.str a0] (.tup [.agg (qc6 r.1),vi r.2.1,vi r.2.2]):=by
 unfold kU at h
 refine xo Tryz.f9 rfl fun F0 w0 _=>?_
 refine Wp.seq (rg [0,2] [2] [(0,.str a0),(2,.own 2 0)] [(2,26,[vi 0,.str [],.val (.slice none 0 0),.val (.slice none 0 0)])] (To.ah (Wp.seq ?_)))
 obtain⟨r1,hr1,h⟩:=ay h
 refine rb [] 1 ⟨[],[(1,12)],[.str a0],[],.tup [.row 1,vi r1.2.1,vi r1.2.2],[(1,50,[aK r1.1])]⟩ [2,5,6,7] [2,12] [(2,.own 2 0),(5,.row 12),(6,vi r1.2.1),(7,vi r1.2.2)] [(2,26,[vi 0,.str [],.val (.slice none 0 0),.val (.slice none 0 0)]),(12,50,[aK r1.1])] ((y8 n a0 _ hr1)) (To.ah (Wp.seq (Wp.seq (rg [2,5,6,7,17] [2,12] [(2,.own 2 0),(5,.row 12),(6,vi r1.2.1),(7,vi r1.2.2),(17,vb (r1.2.2 != 0))] [(2,26,[vi 0,.str [],.val (.slice none 0 0),.val (.slice none 0 0)]),(12,50,[aK r1.1])] (To.ah (cn h (fun h=>?_) (fun h=>?_)))))))
 ·refine Wp.seq (rg [2,3,4] [2] [(2,.own 2 0),(3,vi r1.2.1),(4,vi r1.2.2)] [(2,26,[vi 0,.str [],.val (.slice none 0 0),.val (.slice none 0 0)])] (To.ah (Wp.ret (To.aL (To.weak (K':=[(2,.own 2 0),(3,vi r1.2.1),(4,vi r1.2.2)]) (L':=[(2,26,[vi 0,.str [],ls [],tn4 []])]) (.cons (.refl _) (.cons (.refl _) (.cons (.refl _) .nil))) (.cons (.cons (.refl _) (.cons (.refl _) (.cons (.zero _ _) (.cons (.fE _ _ _) .nil)))) .nil) ?_)))))
  cases h
  exact To.done hΓ (by kernel_rfl)
 ·refine Wp.skip (To.ah (Wp.seq (Wp.seq (rg [2,5,23] [2,12] [(2,.own 2 0),(5,.row 12),(23,vb ((List.length r1.1:Int)==0))] [(2,26,[vi 0,.str [],.val (.slice none 0 0),.val (.slice none 0 0)]),(12,50,[aK r1.1])] (To.ah (cn h (fun h=>?_) (fun h=>?_)))))))
  ·refine Wp.seq (rg [2,3,4] [2] [(2,.own 2 0),(3,vi 0),(4,vi 0)] [(2,26,[vi 0,.str [],.val (.slice none 0 0),.val (.slice none 0 0)])] (To.ah (Wp.ret (To.aL (To.weak (K':=[(2,.own 2 0),(3,vi 0),(4,vi 0)]) (L':=[(2,26,[vi 0,.str [],ls [],tn4 []])]) (.cons (.refl _) (.cons (.refl _) (.cons (.refl _) .nil))) (.cons (.cons (.refl _) (.cons (.refl _) (.cons (.zero _ _) (.cons (.fE _ _ _) .nil)))) .nil) ?_)))))
   cases h
   exact To.done hΓ (by kernel_rfl)
  ·refine Wp.skip (To.ah (Wp.seq (rg [2,8] [2,12,27] [(2,.own 2 0),(8,.own 27 0)] [(2,26,[vi 0,.str [],.val (.slice none 0 0),.val (.slice none 0 0)]),(12,50,[aK r1.1]),(27,46,[.row 12,vi 0,vi 0,vi 0])] (To.ah (Wp.seq ?_)))))
   obtain⟨r2,hr2,h⟩:=ay h
   refine rb [] 1 ⟨[(1000000,27),(1010000,12)],[(200,12),(1000000,27)],[.own 1000000 0],[(1000000,46,[.row 1010000,vi 0,vi 0,vi 0]),(1010000,50,[aK r1.1])],.agg (qc6 r2.1),[(200,50,[aK r2.2.f_l]),(1000000,46,aM 200 r2.2)]⟩ [2,8,9] [2,9,12,27] [(2,.own 2 0),(8,.own 27 0),(9,.own 9 0)] [(2,26,[vi 0,.str [],.val (.slice none 0 0),.val (.slice none 0 0)]),(9,26,qc6 r2.1),(12,50,[aK r2.2.f_l]),(27,46,aM 12 r2.2)] ((ox n (au.mk r1.1 0 0 0) _ hr2)) (To.ah (Wp.seq (Wp.seq (Wp.dP hm hΓ [] [2,8,9,46] [2,9,12,27] (K':=[(2,.own 2 0),(8,.own 27 0),(9,.own 9 0),(46,vb (bif (r2.2.f_e==0) then(decide (r2.2.aC<(List.length r2.2.f_l:Int))) else false))]) (L':=[(2,26,[vi 0,.str [],.val (.slice none 0 0),.val (.slice none 0 0)]),(9,26,qc6 r2.1),(12,50,[aK r2.2.f_l]),(27,46,aM 12 r2.2)]) (ob:=[]) (by kernel_rfl) aj.nil (To.ah ?_)))))
   obtain⟨o3,ho3,h⟩:=ay h
   refine nw [2,8,9,46] [2,9,12,27] [(12,5620)] [2,8,9,46] [2,9,27,5620] [(2,.own 2 0),(8,.own 27 0),(9,.own 9 0),(46,vb (bif (r2.2.f_e==0) then(decide (r2.2.aC<(List.length r2.2.f_l:Int))) else false))] [(2,26,[vi 0,.str [],.val (.slice none 0 0),.val (.slice none 0 0)]),(9,26,qc6 r2.1),(27,46,aM 5620 r2.2),(5620,50,[aK r2.2.f_l])] (Wp.weak (K':=[(2,.own 2 0),(8,.own 27 0),(9,.own 9 0),(46,vb (bif (r2.2.f_e==0) then(decide (r2.2.aC<(List.length r2.2.f_l:Int))) else false))]) (L':=[(2,26,[vi 0,.str [],ls [],tn4 []]),(9,26,qc6 r2.1),(27,46,aM 5620 r2.2),(5620,50,[aK r2.2.f_l])]) (.cons (.refl _) (.cons (.refl _) (.cons (.refl _) (.cons (.refl _) .nil)))) (.cons (.cons (.refl _) (.cons (.refl _) (.cons (.zero _ _) (.cons (.fE _ _ _) .nil)))) (.cons (.cons (.refl _) (.cons (.refl _) (.cons (.refl _) (.cons (.refl _) .nil)))) (.cons (.cons (.refl _) (.cons (.refl _) (.cons (.refl _) (.cons (.refl _) .nil)))) (.cons (.cons (.refl _) .nil) .nil)))) (wQ n (bif (r2.2.f_e==0) then(decide (r2.2.aC<(List.length r2.2.f_l:Int))) else false) zx3 r2.1 r2.2 o3 ho3 (To.ah (Wp.seq (Wp.block (Wp.seq (rg [2,8,9,60] [2,9,27,5620] [(2,.own 2 0),(8,.own 27 0),(9,.own 9 0),(60,vb (o3.f_e != 0))] [(2,26,[vi 0,.str [],ls [],tn4 []]),(9,26,qc6 r2.1),(27,46,aM 5620 o3),(5620,50,[aK o3.f_l])] (To.ah (cn h (fun h=>?_) (fun h=>?_))))))))))
   ·refine Wp.seq (Wp.dP hm hΓ [] [2,3,4] [2] (K':=[(2,.own 2 0),(3,vi o3.mF),(4,vi o3.f_e)]) (L':=[(2,26,[vi 0,.str [],.val (.slice none 0 0),.val (.slice none 0 0)])]) (ob:=[]) (by kernel_rfl) aj.nil (To.ah (Wp.ret (To.aR (To.aL (kt [2,3,4] [2] [(2,.own 2 0),(3,vi o3.mF),(4,vi o3.f_e)] [(2,26,[vi 0,.str [],.val (.slice none 0 0),.val (.slice none 0 0)])] (To.weak (K':=[(2,.own 2 0),(3,vi o3.mF),(4,vi o3.f_e)]) (L':=[(2,26,[vi 0,.str [],ls [],tn4 []])]) (.cons (.refl _) (.cons (.refl _) (.cons (.refl _) .nil))) (.cons (.cons (.refl _) (.cons (.refl _) (.cons (.zero _ _) (.cons (.fE _ _ _) .nil)))) .nil) ?_)))))))
    cases h
    exact To.done hΓ (by kernel_rfl)
   ·refine Wp.seq ?_
    obtain⟨r4,hr4,h⟩:=ay h
    refine rc [] 1 [2,9,75] [2,9] [(2,.own 2 0),(9,.own 9 0),(75,vb (!r4))] [(2,26,[vi 0,.str [],ls [],tn4 []]),(9,26,qc6 r2.1)] (uF n r2.1 _ hr4) (To.ah (cn h (fun h=>?_) (fun h=>?_)))
    ·refine Wp.seq (rg [2,3,4] [2] [(2,.own 2 0),(3,vi 0),(4,vi 9)] [(2,26,[vi 0,.str [],.val (.slice none 0 0),.val (.slice none 0 0)])] (To.ah (Wp.ret (To.aR (To.aL (To.weak (K':=[(2,.own 2 0),(3,vi 0),(4,vi 9)]) (L':=[(2,26,[vi 0,.str [],ls [],tn4 []])]) (.cons (.refl _) (.cons (.refl _) (.cons (.refl _) .nil))) (.cons (.cons (.refl _) (.cons (.refl _) (.cons (.zero _ _) (.cons (.fE _ _ _) .nil)))) .nil) ?_))))))
     cases h
     exact To.done hΓ (by kernel_rfl)
    ·refine Wp.skip (To.aS (To.ah (Wp.seq (rg [2,3,4] [2] [(2,.own 2 0),(3,vi 0),(4,vi 0)] [(2,26,qc6 r2.1)] (To.ah (Wp.ret ?_))))))
     cases h
     exact To.done hΓ (by kernel_rfl)
def jC(n:Nat)(v0:Bs)(v3:List (UInt8))(v13:Int)(v14:Int):Option ((List (UInt8))) :=
 if(decide (0<=v14/\v14<(List.length v0:Int)))=true then(bM ((bif ((((v0)[Int.toNat v14]?.getD 0).toNat:Int)==34) then true else((((v0)[Int.toNat v14]?.getD 0).toNat:Int)==92)):Bool) fun x1 =>
 if x1=true then(if(decide ((List.length v3+List.length ([92,((v0)[Int.toNat v14]?.getD 0)]:List (UInt8)))*(1+1)<=limit))=true then(some (v3++([92,((v0)[Int.toNat v14]?.getD 0)]:List (UInt8)))) else none)
 else(if((((v0)[Int.toNat v14]?.getD 0).toNat:Int)==10)=true then(if(decide ((List.length v3+List.length ([92,110]:List (UInt8)))*(1+1)<=limit))=true then(some (v3++([92,110]:List (UInt8)))) else none)
 else(if((((v0)[Int.toNat v14]?.getD 0).toNat:Int)==9)=true then(if(decide ((List.length v3+List.length ([92,116]:List (UInt8)))*(1+1)<=limit))=true then(some (v3++([92,116]:List (UInt8)))) else none)
 else(if(!(eu (((v0)[Int.toNat v14]?.getD 0).toNat:Int)))=true then(if(decide (0<=(4:Int)))=true then(if(decide (0<=(Int.fdiv (((v0)[Int.toNat v14]?.getD 0).toNat:Int) (2 ^ (min (Int.toNat 4) (IntKind.bits .u8))))/\(Int.fdiv (((v0)[Int.toNat v14]?.getD 0).toNat:Int) (2 ^ (min (Int.toNat 4) (IntKind.bits .u8))))<(List.length ([48,49,50,51,52,53,54,55,56,57,97,98,99,100,101,102]:Bs):Int)))=true then(if(decide (0<=(IntKind.wrap .u8 ((BitVec.ofInt (IntKind.bits .u8) (((v0)[Int.toNat v14]?.getD 0).toNat:Int) &&& BitVec.ofInt (IntKind.bits .u8) 15).toNat))/\(IntKind.wrap .u8 ((BitVec.ofInt (IntKind.bits .u8) (((v0)[Int.toNat v14]?.getD 0).toNat:Int) &&& BitVec.ofInt (IntKind.bits .u8) 15).toNat))<(List.length ([48,49,50,51,52,53,54,55,56,57,97,98,99,100,101,102]:Bs):Int)))=true then(if(decide ((List.length v3+List.length ([92,120,((([48,49,50,51,52,53,54,55,56,57,97,98,99,100,101,102]:Bs))[Int.toNat (Int.fdiv (((v0)[Int.toNat v14]?.getD 0).toNat:Int) (2 ^ (min (Int.toNat 4) (IntKind.bits .u8))))]?.getD 0),((([48,49,50,51,52,53,54,55,56,57,97,98,99,100,101,102]:Bs))[Int.toNat (IntKind.wrap .u8 ((BitVec.ofInt (IntKind.bits .u8) (((v0)[Int.toNat v14]?.getD 0).toNat:Int) &&& BitVec.ofInt (IntKind.bits .u8) 15).toNat))]?.getD 0)]:List (UInt8)))*(1+1)<=limit))=true then(bM ((v3++([92,120,((([48,49,50,51,52,53,54,55,56,57,97,98,99,100,101,102]:Bs))[Int.toNat (Int.fdiv (((v0)[Int.toNat v14]?.getD 0).toNat:Int) (2 ^ (min (Int.toNat 4) (IntKind.bits .u8))))]?.getD 0),((([48,49,50,51,52,53,54,55,56,57,97,98,99,100,101,102]:Bs))[Int.toNat (IntKind.wrap .u8 ((BitVec.ofInt (IntKind.bits .u8) (((v0)[Int.toNat v14]?.getD 0).toNat:Int) &&& BitVec.ofInt (IntKind.bits .u8) 15).toNat))]?.getD 0)]:List (UInt8))):List (UInt8)) fun x5 =>
 some x5) else none) else none) else none) else none)
 else(if(decide ((List.length v3+List.length ([((v0)[Int.toNat v14]?.getD 0)]:List (UInt8)))*(1+1)<=limit))=true then(some (v3++([((v0)[Int.toNat v14]?.getD 0)]:List (UInt8)))) else none))))) else none
abbrev nJ(x0:Bs)(x1:Int):=([92,((x0)[Int.toNat x1]?.getD 0)]:List (UInt8))
abbrev su(x0:List (UInt8)):=(x0++([92,110]:List (UInt8)))
abbrev sD(x0:List (UInt8)):=(x0++([92,116]:List (UInt8)))
abbrev xY(x0:Bs)(x1:Int):=([92,120,((([48,49,50,51,52,53,54,55,56,57,97,98,99,100,101,102]:Bs))[Int.toNat (Int.fdiv (ex9 x0 x1) (2 ^ (min (Int.toNat 4) (IntKind.bits .u8))))]?.getD 0),((([48,49,50,51,52,53,54,55,56,57,97,98,99,100,101,102]:Bs))[Int.toNat (IntKind.wrap .u8 ((BitVec.ofInt (IntKind.bits .u8) (ex9 x0 x1) &&& BitVec.ofInt (IntKind.bits .u8) 15).toNat))]?.getD 0)]:List (UInt8))
abbrev IZ(x0:Bs)(x1:Int):=([92,120,((([48,49,50,51,52,53,54,55,56,57,97,98,99,100,101,102]:Bs))[Int.toNat (Int.fdiv (ex9 x0 x1) (2 ^ (min (Int.toNat 4) (IntKind.bits .u8))))]?.getD 0),((([48,49,50,51,52,53,54,55,56,57,97,98,99,100,101,102]:Bs))[Int.toNat (IntKind.wrap .u8 ((BitVec.ofInt (IntKind.bits .u8) (ex9 x0 x1) &&& BitVec.ofInt (IntKind.bits .u8) 15).toNat))]?.getD 0)])
abbrev qj(x0:Bs)(x1:Int):Nat×D:=(5,.val (.int .u8 (ex9 x0 x1)))
abbrev FN(x0:Bs)(x1:Int):=(IntKind.wrap .u8 ((BitVec.ofInt (IntKind.bits .u8) (ex9 x0 x1) &&& BitVec.ofInt (IntKind.bits .u8) 15).toNat))
abbrev Ge(x0:Bs)(x1:Int):=(Int.fdiv (ex9 x0 x1) (2 ^ (min (Int.toNat 4) (IntKind.bits .u8))))
theorem vU(n:Nat)(v0:Bs)(v3:List (UInt8))(v13:Int)(v14:Int)(o:(List (UInt8)))(h:jC n v0 v3 v13 v14=some o)(hQ:To 65 F0 w0 [(0,.str v0),(3,.row 1003),(13,vi v13),(14,vi v14)] [(1003,5,[rc8 o])] .normal Q):Wp Tryz.prog 65 F0 w0 [(0,.str v0),(3,.row 1003),(13,vi v13),(14,vi v14)] [(1003,5,[rc8 v3])] (cA (cB (cB (cI (cI (cB (cA (cB (cB (cF Tryz.f42)))))))))) Q:=by
 unfold jC at h
 refine Wp.block (Wp.seq (rg [0,3,4,13,14] [1003] [(0,.str v0),(3,.row 1003),(4,vi v14),(13,vi v13),(14,vi v14)] [(1003,5,[rc8 v3])] (To.ah (Wp.seq ?_))))
 obtain⟨hc11,h⟩:=aF h
 refine r0 [0,3,5,13,14] [1003] [(0,.str v0),(3,.row 1003),(qj v0 v14),(13,vi v13),(14,vi v14)] [(1003,5,[rc8 v3])] (aj.cons hc11 aj.nil) (To.ah (Wp.block (Wp.seq ?_)))
 obtain⟨x1,hx1,h⟩:=aW h
 refine rg [0,3,5,13,14,24] [1003] [(0,.str v0),(3,.row 1003),(qj v0 v14),(13,vi v13),(14,vi v14),(24,vb (bif ((ex9 v0 v14)==34) then true else((ex9 v0 v14)==92)))] [(1003,5,[rc8 v3])] (To.eq (K':=[(0,.str v0),(3,.row 1003),(qj v0 v14),(13,vi v13),(14,vi v14),(24,vb x1)]) (L':=[(1003,5,[rc8 v3])]) (by cases hx1;rfl) (by cases hx1;rfl) (To.ah (cn h (fun h=>?_) (fun h=>?_))))
 ·obtain⟨hc2,h⟩:=aF h
  refine rr [] [(2,rs9 ([92,((v0)[Int.toNat v14]?.getD 0)])),(3,rs9 (v3++(nJ v0 v14)))] [] [0,3,13,14] [34] [(0,.str v0),(3,.row 34),(13,vi v13),(14,vi v14)] [(34,5,[rc8 (v3++(nJ v0 v14))])] [(dC 1 [.val (.int .u8 92),.val (.int .u8 (ex9 v0 v14))] 2 (rs9 ([92,((v0)[Int.toNat v14]?.getD 0)]))/\aQ (rs9 ([92,((v0)[Int.toNat v14]?.getD 0)]))),_,(eQ 0 e8 v3 (List.flatMap e8 (nJ v0 v14)) (List.length (nJ v0 v14)) (rs9 (v3++(nJ v0 v14)))/\aQ (rs9 (v3++(nJ v0 v14))))] (aj.cons (fL (iE.cells (ns:=[92,(ex9 v0 v14)]) (.cons rfl (.cons rfl .nil))) rfl rfl (dh _)) (aj.cons hc2 (aj.cons (eG rfl rfl (dh _)) aj.nil))) (To.aS (To.aS (nt [0,3,13,14] [34] [(34,1003)] [0,3,13,14] [1003] [(0,.str v0),(3,.row 1003),(13,vi v13),(14,vi v14)] [(1003,5,[rc8 (v3++(nJ v0 v14))])] ?_)))
  cases h
  exact hQ
 ·refine Wp.seq (rg [0,3,5,13,14,35] [1003] [(0,.str v0),(3,.row 1003),(qj v0 v14),(13,vi v13),(14,vi v14),(35,vb ((ex9 v0 v14)==10))] [(1003,5,[rc8 v3])] (To.ah (cn h (fun h=>?_) (fun h=>?_))))
  ·obtain⟨hc3,h⟩:=aF h
   refine rr [] [(1,rs9 [92,110]),(2,rs9 (su v3))] [] [0,3,13,14] [40] [(0,.str v0),(3,.row 40),(13,vi v13),(14,vi v14)] [(40,5,[rc8 (su v3)])] [(dC 1 [.val (.int .u8 92),.val (.int .u8 110)] 2 (rs9 [92,110])/\aQ (rs9 [92,110])),_,(eQ 0 e8 v3 (List.flatMap e8 ([92,110]:List (UInt8))) (List.length ([92,110]:List (UInt8))) (rs9 (su v3))/\aQ (rs9 (su v3)))] (aj.cons (fL (iE.cells (ns:=[92,110]) (.cons rfl (.cons rfl .nil))) rfl rfl (dh _)) (aj.cons hc3 (aj.cons (eG rfl rfl (dh _)) aj.nil))) (To.aS (To.aS (nt [0,3,13,14] [40] [(40,1003)] [0,3,13,14] [1003] [(0,.str v0),(3,.row 1003),(13,vi v13),(14,vi v14)] [(1003,5,[rc8 (su v3)])] ?_)))
   cases h
   exact hQ
  ·refine Wp.seq (rg [0,3,5,13,14,41] [1003] [(0,.str v0),(3,.row 1003),(qj v0 v14),(13,vi v13),(14,vi v14),(41,vb ((ex9 v0 v14)==9))] [(1003,5,[rc8 v3])] (To.ah (cn h (fun h=>?_) (fun h=>?_))))
   ·obtain⟨hc4,h⟩:=aF h
    refine rr [] [(1,rs9 [92,116]),(2,rs9 (sD v3))] [] [0,3,13,14] [46] [(0,.str v0),(3,.row 46),(13,vi v13),(14,vi v14)] [(46,5,[rc8 (sD v3)])] [(dC 1 [.val (.int .u8 92),.val (.int .u8 116)] 2 (rs9 [92,116])/\aQ (rs9 [92,116])),_,(eQ 0 e8 v3 (List.flatMap e8 ([92,116]:List (UInt8))) (List.length ([92,116]:List (UInt8))) (rs9 (sD v3))/\aQ (rs9 (sD v3)))] (aj.cons (fL (iE.cells (ns:=[92,116]) (.cons rfl (.cons rfl .nil))) rfl rfl (dh _)) (aj.cons hc4 (aj.cons (eG rfl rfl (dh _)) aj.nil))) (To.aS (To.aS (nt [0,3,13,14] [46] [(46,1003)] [0,3,13,14] [1003] [(0,.str v0),(3,.row 1003),(13,vi v13),(14,vi v14)] [(1003,5,[rc8 (sD v3)])] ?_)))
    cases h
    exact hQ
   ·refine Wp.seq (rc [] 1 [0,3,5,13,14,47] [1003] [(0,.str v0),(3,.row 1003),(qj v0 v14),(13,vi v13),(14,vi v14),(47,vb (!(eu (ex9 v0 v14))))] [(1003,5,[rc8 v3])] (sK (ex9 v0 v14) _ rfl) (To.ah (cn h (fun h=>?_) (fun h=>?_))))
    ·obtain⟨hc6,h⟩:=aF h
     obtain⟨hc7,h⟩:=aF h
     obtain⟨hc8,h⟩:=aF h
     obtain⟨hc9,h⟩:=aF h
     obtain⟨x5,hx5,h⟩:=aW h
     refine Wp.dP hm hΓ [(7,rs9 (IZ v0 v14)),(8,.row 59),(1008,rs9 (v3++(xY v0 v14)))] [0,3,13,14] [59] (K':=[(0,.str v0),(3,.row 59),(13,vi v13),(14,vi v14)]) (L':=[(59,5,[rc8 (v3++(xY v0 v14))])]) (ob:=[(decide (0<=(4:Int)))=true,(decide (0<=(Ge v0 v14)/\(Ge v0 v14)<(List.length ([48,49,50,51,52,53,54,55,56,57,97,98,99,100,101,102]:Bs):Int)))=true,(decide (0<=(FN v0 v14)/\(FN v0 v14)<(List.length ([48,49,50,51,52,53,54,55,56,57,97,98,99,100,101,102]:Bs):Int)))=true,(true=true->dC 1 [.val (.int .u8 92),.val (.int .u8 120),.val (.int .u8 (((([48,49,50,51,52,53,54,55,56,57,97,98,99,100,101,102]:Bs))[Int.toNat (Ge v0 v14)]?.getD 0).toNat:Int)),.val (.int .u8 (((([48,49,50,51,52,53,54,55,56,57,97,98,99,100,101,102]:Bs))[Int.toNat (FN v0 v14)]?.getD 0).toNat:Int))] 4 (rs9 (IZ v0 v14))/\aQ (rs9 (IZ v0 v14))),(decide ((List.length v3+List.length (xY v0 v14))*(1+1)<=limit))=true,(eQ 0 e8 v3 (List.flatMap e8 (xY v0 v14)) (List.length (xY v0 v14)) (rs9 (v3++(xY v0 v14)))/\aQ (rs9 (v3++(xY v0 v14))))]) (by kernel_rfl) (aj.cons hc6 (aj.cons hc7 (aj.cons hc8 (aj.cons (fun _=>fL (iE.cells (ns:=[92,120,(((([48,49,50,51,52,53,54,55,56,57,97,98,99,100,101,102]:Bs))[Int.toNat (Ge v0 v14)]?.getD 0).toNat:Int),(((([48,49,50,51,52,53,54,55,56,57,97,98,99,100,101,102]:Bs))[Int.toNat (FN v0 v14)]?.getD 0).toNat:Int)]) (.cons rfl (.cons rfl (.cons rfl (.cons rfl .nil))))) rfl rfl (dh _)) (aj.cons hc9 (aj.cons (eG rfl rfl (dh _)) aj.nil)))))) (To.eq (K':=[(0,.str v0),(3,.row 59),(13,vi v13),(14,vi v14)]) (L':=[(59,5,[rc8 x5])]) (by cases hx5;rfl) (by cases hx5;rfl) (To.aS (To.aS (nt [0,3,13,14] [59] [(59,1003)] [0,3,13,14] [1003] [(0,.str v0),(3,.row 1003),(13,vi v13),(14,vi v14)] [(1003,5,[rc8 x5])] ?_))))
     cases h
     exact hQ
    ·obtain⟨hc10,h⟩:=aF h
     refine rr [] [(2,rs9 (zI v0 v14)),(3,rs9 (v3++(jL v0 v14)))] [] [0,3,13,14] [23] [(0,.str v0),(3,.row 23),(13,vi v13),(14,vi v14)] [(23,5,[rc8 (v3++(jL v0 v14))])] [(E6 v0 v14),_,(FB v3 v0 v14)] (aj.cons (fL (iE.cells (ns:=[(ex9 v0 v14)]) (.cons rfl .nil)) rfl rfl (dh _)) (aj.cons hc10 (aj.cons (eG rfl rfl (dh _)) aj.nil))) (To.aS (To.aS (nt [0,3,13,14] [23] [(23,1003)] [0,3,13,14] [1003] [(0,.str v0),(3,.row 1003),(13,vi v13),(14,vi v14)] [(1003,5,[rc8 (v3++(jL v0 v14))])] ?_)))
     cases h
     exact hQ
def iH(n:Nat)(v0:Bs)(v13:Int):Nat->(List (UInt8))->Int->Option ((List (UInt8)))
 |0,_,_=>none
 |k+1,v3,v14=>if(decide (v14<v13))=true then((jC n v0 v3 v13 v14).bind fun o1 =>
 iH n v0 v13 k o1 (IntKind.wrap .i64 (v14+1)))
 else some v3
theorem vX(n:Nat)(v0:Bs)(v13:Int)(k:Nat):∀(v3:List (UInt8))(v14:Int)(o:(List (UInt8))),iH n v0 v13 k v3 v14=some o->To 65 F0 w0 [(3,.row 1003)] [(1003,5,[rc8 o])] (.exit 0) Q->WL Tryz.prog 65 F0 w0 [(0,.str v0),(3,.row 1003),(13,vi v13),(14,vi v14)] [(1003,5,[rc8 v3])] (cI (cI (cB (cA (cB (cB (cF Tryz.f42))))))) Q:=by
 induction k with
 |zero=>intro v3 v14 o h;cases h
 |succ k ih =>
  intro v3 v14 o h hQ
  rw[iH] at h
  refine WL.round (Wp.seq (rg [0,3,13,14,15] [1003] [(0,.str v0),(3,.row 1003),(13,vi v13),(14,vi v14),(15,vb (decide (v14<v13)))] [(1003,5,[rc8 v3])] (To.ah (Wp.seq (cn h (fun h=>?_) (fun h=>?_))))))
  ·refine Wp.skip (To.ah (Wp.seq ?_))
   obtain⟨o1,ho1,h⟩:=ay h
   refine kw [0,3,13,14] [1003] [(0,.str v0),(3,.row 1003),(13,vi v13),(14,vi v14)] [(1003,5,[rc8 v3])] (vU n v0 v3 v13 v14 o1 ho1 (To.ah (rg [0,3,13,14] [1003] [(0,.str v0),(3,.row 1003),(13,vi v13),(14,vi (IntKind.wrap .i64 (v14+1)))] [(1003,5,[rc8 o1])] (kt [0,3,13,14] [1003] [(0,.str v0),(3,.row 1003),(13,vi v13),(14,vi (IntKind.wrap .i64 (v14+1)))] [(1003,5,[rc8 o1])] (To.again ?_)))))
   exact ih o1 (IntKind.wrap .i64 (v14+1)) _ h hQ
  ·refine Wp.exit (To.bU (To.bU (kt [3] [1003] [(3,.row 1003)] [(1003,5,[rc8 v3])] ?_)))
   cases h
   exact hQ
def iG(n:Nat)(a0:Bs):Option (Bs) :=
 if(decide (0<=(0:Int)/\(0:Int)<=(IntKind.wrap .i64 ((List.length a0:Int)+2))))=true then(if(decide ((IntKind.wrap .i64 ((List.length a0:Int)+2))*((1+1:Nat):Int)<=(limit:Int)))=true then(if(decide ((List.length ([]:List (UInt8))+List.length ([34]:List (UInt8)))*(1+1)<=limit))=true then((iH n a0 (List.length a0:Int) n (([]:List (UInt8))++([34]:List (UInt8))) 0).bind fun o1 =>
 if(decide ((List.length o1+List.length ([34]:List (UInt8)))*(1+1)<=limit))=true then(some (o1++([34]:List (UInt8)))) else none) else none) else none) else none
theorem lC(n:Nat)(a0:Bs)(r:Bs)(h:iG n a0=some r):aT Tryz.prog 42 [.str a0] (.str r):=by
 unfold iG at h
 refine xo Tryz.f42 rfl fun F0 w0 _=>?_
 refine Wp.seq (rg [0] [] [(0,.str a0)] [] (To.ah (Wp.seq ?_)))
 obtain⟨hc3,h⟩:=aF h
 obtain⟨hc4,h⟩:=aF h
 obtain⟨hc5,h⟩:=aF h
 refine rr [] [(3,rs9 []),(4,rs9 [34]),(5,rs9 (([]:List (UInt8))++([34]:List (UInt8))))] [] [0,3] [11] [(0,.str a0),(3,.row 11)] [(11,5,[rc8 (([]:List (UInt8))++([34]:List (UInt8)))])] [_,_,(yL [.val (.int .u8 0)] (Int.toNat 0) (rs9 [])/\aQ (rs9 [])),(dC 1 [.val (.int .u8 34)] 1 (rs9 [34])/\aQ (rs9 [34])),_,(eQ 0 e8 ([]:List (UInt8)) (List.flatMap e8 ([34]:List (UInt8))) (List.length ([34]:List (UInt8))) (rs9 (([]:List (UInt8))++([34]:List (UInt8))))/\aQ (rs9 (([]:List (UInt8))++([34]:List (UInt8)))))] (aj.cons hc3 (aj.cons hc4 (aj.cons (LK (by kernel_rfl) (dh _)) (aj.cons (fL (iE.cells (ns:=[34]) (.cons rfl .nil)) rfl rfl (dh _)) (aj.cons hc5 (aj.cons (eG rfl rfl (dh _)) aj.nil)))))) (To.ah (Wp.seq (Wp.seq (rg [0,3,13,14] [11] [(0,.str a0),(3,.row 11),(13,vi (List.length a0:Int)),(14,vi 0)] [(11,5,[rc8 (([]:List (UInt8))++([34]:List (UInt8)))])] (To.ah (Wp.block ?_))))))
 obtain⟨o1,ho1,h⟩:=ay h
 refine nw [0,3,13,14] [11] [(11,1003)] [0,3,13,14] [1003] [(0,.str a0),(3,.row 1003),(13,vi (List.length a0:Int)),(14,vi 0)] [(1003,5,[rc8 (([]:List (UInt8))++([34]:List (UInt8)))])] (Wp.fP (vX n a0 (List.length a0:Int) n (([]:List (UInt8))++([34]:List (UInt8))) 0 o1 ho1 (To.dW (To.ah (Wp.seq ?_)))))
 obtain⟨hc2,h⟩:=aF h
 refine rr [] [(1,rs9 [34]),(2,rs9 (o1++([34]:List (UInt8)))),(3,.str (o1++([34]:List (UInt8))))] [] [2] [] [(2,.str (o1++([34]:List (UInt8))))] [] [(dC 1 [.val (.int .u8 34)] 1 (rs9 [34])/\aQ (rs9 [34])),_,(eQ 0 e8 o1 (List.flatMap e8 ([34]:List (UInt8))) (List.length ([34]:List (UInt8))) (rs9 (o1++([34]:List (UInt8))))/\aQ (rs9 (o1++([34]:List (UInt8))))),(true=true->wB (List.flatMap e8 (o1++([34]:List (UInt8)))) (.str (o1++([34]:List (UInt8)))))] (aj.cons (fL (iE.cells (ns:=[34]) (.cons rfl .nil)) rfl rfl (dh _)) (aj.cons hc2 (aj.cons (eG rfl rfl (dh _)) (aj.cons (fun _=>E7 (BJ _)) aj.nil)))) (To.ah (Wp.ret ?_))
 cases h
 exact To.done hΓ (by kernel_rfl)
def oZ(n:Nat)(a0:Bs)(a1:Bool):Option (Bs) :=
 ((if(a1==true)=true then pO n a0 else some false)).bind fun r1 =>
 ((if(((!a1)==true)&&((bif a1 then r1 else false)==false))=true then iw n a0 else some false)).bind fun r2 =>
 if(bif (bif a1 then r1 else false) then true else(bif (!a1) then r2 else false))=true then some a0
 else((iG n a0).bind fun r3 =>
 some r3)
theorem zC(n:Nat)(a0:Bs)(a1:Bool)(r:Bs)(h:oZ n a0 a1=some r):aT Tryz.prog 51 [.str a0,vb a1] (.str r):=by
 unfold oZ at h
 refine xo Tryz.f51 rfl fun F0 w0 _=>?_
 refine Wp.seq (rg [0,1] [] [(0,.str a0),(1,vb a1)] [] (To.ah (Wp.seq (Wp.seq ?_))))
 obtain⟨r1,hr1,h⟩:=ay h
 obtain⟨r2,hr2,h⟩:=ay h
 refine rr [] [(3,vb r1),(10,vb r2)] [] [0,17] [] [(0,.str a0),(17,vb (bif (bif a1 then r1 else false) then true else(bif (!a1) then r2 else false)))] [] [((a1==true)=true->CX Tryz.prog 83 [.str a0] (vb r1)),((((!a1)==true)&&((bif a1 then r1 else false)==false))=true->CX Tryz.prog 33 [.str a0] (vb r2))] (aj.cons (fun hg=>cx (qP n a0 _ (iq hg hr1))) (aj.cons (fun hg=>cx (mr n a0 _ (iq hg hr2))) aj.nil)) (To.ah (cn h (fun h=>?_) (fun h=>?_)))
 ·refine Wp.seq (rg [4] [] [(4,.str a0)] [] (To.ah (Wp.ret (To.aL ?_))))
  cases h
  exact To.done hΓ (by kernel_rfl)
 ·refine Wp.skip (To.ah (Wp.seq ?_))
  obtain⟨r3,hr3,h⟩:=ay h
  refine rc [] 1 [4] [] [(4,.str r3)] [] (lC n a0 _ hr3) (To.ah (Wp.ret ?_))
  cases h
  exact To.done hΓ (by kernel_rfl)
def jO(n:Nat)(a0:Bs):Option (Bs) :=
 if(decide (List.length a0<4294967281))=true then(if(Lib.containsAny a0 [34,39])=true then((iG n a0).bind fun r2 =>
 some r2)
 else((oZ n a0 false).bind fun r3 =>
 some r3)) else none
theorem oH(n:Nat)(a0:Bs)(r:Bs)(h:jO n a0=some r):aT Tryz.prog 21 [.str a0] (.str r):=by
 unfold jO at h
 refine xo Tryz.f21 rfl fun F0 w0 _=>?_
 refine Wp.seq (rg [0] [] [(0,.str a0)] [] (To.ah (Wp.seq (Wp.seq ?_))))
 obtain⟨u1,h⟩:=aF h
 refine rr [] [(1,vb (Lib.containsAny a0 [34,39]))] [] [0,4] [] [(0,.str a0),(4,vb (Lib.containsAny a0 [34,39]))] [] [(true=true->CX Tryz.prog 50 [.str a0,.str [34,39]] (vb (Lib.containsAny a0 [34,39])))] (aj.cons (fun _=>cx (Sh.JH u1)) aj.nil) (To.ah (cn h (fun h=>?_) (fun h=>?_)))
 ·refine Wp.seq ?_
  obtain⟨r2,hr2,h⟩:=ay h
  refine rc [] 1 [2] [] [(2,.str r2)] [] (lC n a0 _ hr2) (To.ah (Wp.ret (To.aL ?_)))
  cases h
  exact To.done hΓ (by kernel_rfl)
 ·refine Wp.skip (To.ah (Wp.seq ?_))
  obtain⟨r3,hr3,h⟩:=ay h
  refine rc [] 1 [2] [] [(2,.str r3)] [] (zC n a0 false _ hr3) (To.ah (Wp.ret ?_))
  cases h
  exact To.done hΓ (by kernel_rfl)
def l7(n:Nat)(a0:af):Option (Bs×Bool) :=
 if(a0.aD==0)=true then(some (lg,true))
 else(if(a0.aD==1)=true then((jO n a0.aI).bind fun r1 =>
 some (r1,true))
 else(if(decide ((List.length a0.ai:Int)>0))=true then(some ([],false))
 else(if(a0.aD==2)=true then(some ([91,93],true))
 else(some ([123,125],true)))))
theorem uK(n:Nat)(a0:af)(r:Bs×Bool)(h:l7 n a0=some r):aT Tryz.prog 79 [.agg (qc6 a0)] (.tup [.str r.1,vb r.2]):=by
 unfold l7 at h
 refine xo Tryz.f79 rfl fun F0 w0 _=>?_
 refine Wp.seq (rg [1] [1] [(1,.own 1 0)] [(1,26,qc6 a0)] (To.ah (Wp.seq (Wp.block (Wp.seq (rg [1,4] [1] [(1,.own 1 0),(4,vb (a0.aD==0))] [(1,26,qc6 a0)] (To.ah (cn h (fun h=>?_) (fun h=>?_)))))))))
 ·refine Wp.seq (rg [2,3] [] [(2,.str lg),(3,vb true)] [] (To.ah (Wp.ret (To.aR (To.aL ?_)))))
  cases h
  exact To.done hΓ (by kernel_rfl)
 ·refine Wp.seq (rg [1,8] [1] [(1,.own 1 0),(8,vb (a0.aD==1))] [(1,26,qc6 a0)] (To.ah (cn h (fun h=>?_) (fun h=>?_))))
  ·refine Wp.seq ?_
   obtain⟨r1,hr1,h⟩:=ay h
   refine rc [] 2 [2,3] [] [(2,.str r1),(3,vb true)] [] (oH n a0.aI _ hr1) (To.ah (Wp.ret (To.aR (To.aL ?_))))
   cases h
   exact To.done hΓ (by kernel_rfl)
  ·refine Wp.seq (rg [1,15] [1] [(1,.own 1 0),(15,vb (decide ((List.length a0.ai:Int)>0)))] [(1,26,qc6 a0)] (To.ah (cn h (fun h=>?_) (fun h=>?_))))
   ·refine Wp.seq (rg [2,3] [] [(2,.str []),(3,vb false)] [] (To.ah (Wp.ret (To.aR (To.aL ?_)))))
    cases h
    exact To.done hΓ (by kernel_rfl)
   ·refine Wp.seq (rg [20] [] [(20,vb (a0.aD==2))] [] (To.ah (cn h (fun h=>?_) (fun h=>?_))))
    ·refine Wp.seq (rg [2,3] [] [(2,.str [91,93]),(3,vb true)] [] (To.ah (Wp.ret (To.aR (To.aL ?_)))))
     cases h
     exact To.done hΓ (by kernel_rfl)
    ·refine Wp.skip (To.aS (To.ah (Wp.seq (rg [2,3] [] [(2,.str [123,125]),(3,vb true)] [] (To.ah (Wp.ret ?_))))))
     cases h
     exact To.done hΓ (by kernel_rfl)
def ru(n:Nat)(a0:Bs):Option (Bs) :=
 if(a0==[60,60])=true then((iG n a0).bind fun r1 =>
 some r1)
 else((jO n a0).bind fun r2 =>
 some r2)
theorem DU(n:Nat)(a0:Bs)(r:Bs)(h:ru n a0=some r):aT Tryz.prog 80 [.str a0] (.str r):=by
 unfold ru at h
 refine xo Tryz.f80 rfl fun F0 w0 _=>?_
 refine Wp.seq (rg [0] [] [(0,.str a0)] [] (To.ah (Wp.seq (Wp.seq (rg [0,4] [] [(0,.str a0),(4,vb (a0==[60,60]))] [] (To.ah (cn h (fun h=>?_) (fun h=>?_))))))))
 ·refine Wp.seq ?_
  obtain⟨r1,hr1,h⟩:=ay h
  refine rc [] 1 [2] [] [(2,.str r1)] [] (lC n a0 _ hr1) (To.ah (Wp.ret (To.aL ?_)))
  cases h
  exact To.done hΓ (by kernel_rfl)
 ·refine Wp.skip (To.ah (Wp.seq ?_))
  obtain⟨r2,hr2,h⟩:=ay h
  refine rc [] 1 [2] [] [(2,.str r2)] [] (oH n a0 _ hr2) (To.ah (Wp.ret ?_))
  cases h
  exact To.done hΓ (by kernel_rfl)
end Go.Proofs.YtefojkdckfidcaaGreatDoor.M
