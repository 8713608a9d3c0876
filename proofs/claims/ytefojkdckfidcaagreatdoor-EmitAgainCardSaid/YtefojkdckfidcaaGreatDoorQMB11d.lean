import Derived.Test.YtefojkdckfidcaaGreatDoorQMB11c
set_option linter.all false
namespace Go.Proofs.YtefojkdckfidcaaGreatDoor.M
open Go.RowKit Go.Proofs.YtefojkdckfidcaaGreatDoor.RX
set_option maxRecDepth 100000
variable {F0:Fz} {w0:Pt Tryz.prog} {Q:Exit->Act->World->Prop}
theorem qg(R_block_reader_block__o0_s2:ak->Option (af×ak))(hR_block_reader_block__o0_s2:yl R_block_reader_block__o0_s2)(n:Nat)(v1:Int)(v7:Bs)(v8:Bs)(v92:Bool)(b4:af)(b5:af)(b6:av)(b10:af)(b1000000:ak)(o:af×ak)(h:dC R_block_reader_block__o0_s2 n v1 v7 v8 v92 b4 b5 b6 b10 b1000000=some o)(hQ:To 114 F0 w0 [(0,.own 1000000 0),(1,vi v1),(4,.own 4 0),(5,.own 5 0),(7,.str v7),(10,.own 10 0)] [(4,26,qc9 b4),(5,26,dQ 4302 4303 b5),(10,26,qc9 o.1),(4302,9,[fQ b5.aA]),(4303,26,[aQ b5.aj]),(504000,50,[rc5 o.2.f_l]),(1000000,46,aL 504000 o.2)] .normal Q):Wp Tryz.prog 114 F0 w0 [(0,.own 1000000 0),(1,vi v1),(4,.own 4 0),(5,.own 5 0),(6,.own 6 0),(7,.str v7),(8,.str v8),(10,.own 10 0),(92,vb v92)] [(4,26,qc9 b4),(5,26,dQ 4302 4303 b5),(6,50,qc3 b6),(10,26,qc9 b10),(4302,9,[fQ b5.aA]),(4303,26,[aQ b5.aj]),(fh b1000000),(iw b1000000)] (cB (cA (cB (cB (cB (cB (cB (cI (cB (cI (cI (cA (cB (cB (cI (cB (cF Tryz.f56))))))))))))))))) Q:=by
 unfold dC at h
 refine cn h (fun h=>?_) (fun h=>?_)
 ·obtain⟨r6,hr6,h⟩:=aG h
  refine rb [] 4 ⟨[(1000000,1000000),(1010000,504000)],[(200,504000),(1000000,1000000)],[.own 1000000 0,vi b6.eG,.str v8],[(tu b1000000),(uU b1000000)],.agg (qc9 r6.1),[(200,50,[rc5 r6.2.f_l]),(1000000,46,aL 200 r6.2)]⟩ [0,1,4,5,7,10] [4,5,10,4302,4303,504000,1000000] [(0,.own 1000000 0),(1,vi v1),(4,.own 4 0),(5,.own 5 0),(7,.str v7),(10,.own 10 0)] [(4,26,qc9 b4),(5,26,dQ 4302 4303 b5),(10,26,qc9 r6.1),(4302,9,[fQ b5.aA]),(4303,26,[aQ b5.aj]),(504000,50,[rc5 r6.2.f_l]),(1000000,46,aL 504000 r6.2)] ((mo n b6.eG v8 b1000000 _ hr6)) (kt [0,1,4,5,7,10] [4,5,10,4302,4303,504000,1000000] [(0,.own 1000000 0),(1,vi v1),(4,.own 4 0),(5,.own 5 0),(7,.str v7),(10,.own 10 0)] [(4,26,qc9 b4),(5,26,dQ 4302 4303 b5),(10,26,qc9 r6.1),(4302,9,[fQ b5.aA]),(4303,26,[aQ b5.aj]),(504000,50,[rc5 r6.2.f_l]),(1000000,46,aL 504000 r6.2)] ?_)
  cases h
  exact hQ
 ·obtain⟨r7,hr7,h⟩:=aG h
  refine rb [] 2 ⟨[(1000000,1000000),(1010000,504000)],[(200,504000),(1000000,1000000)],[.own 1000000 0,vi v1,vb true],[(tu b1000000),(uU b1000000)],.agg (qc9 r7.1),[(200,50,[rc5 r7.2.f_l]),(1000000,46,aL 200 r7.2)]⟩ [0,1,4,5,7,10] [4,5,10,4302,4303,504000,1000000] [(0,.own 1000000 0),(1,vi v1),(4,.own 4 0),(5,.own 5 0),(7,.str v7),(10,.own 10 0)] [(4,26,qc9 b4),(5,26,dQ 4302 4303 b5),(10,26,qc9 r7.1),(4302,9,[fQ b5.aA]),(4303,26,[aQ b5.aj]),(504000,50,[rc5 r7.2.f_l]),(1000000,46,aL 504000 r7.2)] ((kK R_block_reader_block__o0_s2 hR_block_reader_block__o0_s2 n v1 true b1000000 _ hr7)) (kt [0,1,4,5,7,10] [4,5,10,4302,4303,504000,1000000] [(0,.own 1000000 0),(1,vi v1),(4,.own 4 0),(5,.own 5 0),(7,.str v7),(10,.own 10 0)] [(4,26,qc9 b4),(5,26,dQ 4302 4303 b5),(10,26,qc9 r7.1),(4302,9,[fQ b5.aA]),(4303,26,[aQ b5.aj]),(504000,50,[rc5 r7.2.f_l]),(1000000,46,aL 504000 r7.2)] ?_)
  cases h
  exact hQ
def bW(R_block_reader_block__o0_s2:ak->Option (af×ak))(n:Nat)(v1:Int):Nat->af->af->ak->Option (Sum (af×af×ak) (af×ak))
 |0,_,_,_=>none
 |k+1,b4,b5,b1000000=>if(bif (b1000000.f_e==0) then(decide (b1000000.aC<(List.length b1000000.f_l:Int))) else false)=true then(if(decide (0<=b1000000.aC/\b1000000.aC<(List.length b1000000.f_l:Int)))=true then((jk n (((b1000000.f_l)[Int.toNat b1000000.aC]?.getD (av.mk 0 0 [])).au)).bind fun r1 =>
 ((if(((decide (r1.2.2>0))==true)&&(((decide (r1.2.2<0))==false)&&((((((b1000000.f_l)[Int.toNat b1000000.aC]?.getD (av.mk 0 0 [])).aI)==v1)==true)&&((decide ((((b1000000.f_l)[Int.toNat b1000000.aC]?.getD (av.mk 0 0 [])).aI)>v1))==false))))=true then oO n b5.aA r1.1 else some false)).bind fun r2 =>
 aP ((bif (decide ((((b1000000.f_l)[Int.toNat b1000000.aC]?.getD (av.mk 0 0 [])).aI)>v1)) then true else(bif ((((b1000000.f_l)[Int.toNat b1000000.aC]?.getD (av.mk 0 0 [])).aI)==v1) then(bif (decide (r1.2.2<0)) then true else(bif (decide (r1.2.2>0)) then r2 else false)) else false)):Bool) fun x3 =>
 if x3=true then(aP (cZ (((b1000000.f_l)[Int.toNat b1000000.aC]?.getD (av.mk 0 0 [])).eG) 3 b1000000) fun r4 =>
 some (.inr (r4.1,r4.2)))
 else(aP ((bif (decide ((((b1000000.f_l)[Int.toNat b1000000.aC]?.getD (av.mk 0 0 [])).aI)<v1)) then true else(r1.2.2==0)):Bool) fun x5 =>
 if x5=true then(some (.inl (b4,b5,b1000000)))
 else((dC R_block_reader_block__o0_s2 n v1 r1.1 r1.2.1 (!(r1.2.1==[])) b4 b5 ((b1000000.f_l)[Int.toNat b1000000.aC]?.getD (av.mk 0 0 [])) (af.mk 0 [] [] []) (ak.mk b1000000.f_l (IntKind.wrap .i64 (b1000000.aC+1)) b1000000.mF b1000000.f_e)).bind fun o6 =>
 if(decide ((List.length b5.aA+List.length ([r1.1]:Ls))*(16+1)<=limit))=true then(if(decide ((List.length b5.aj+List.length ([o6.1]:List (af)))*(72+1)<=limit))=true then(bW R_block_reader_block__o0_s2 n v1 k b4 (af.mk b5.aF b5.au (b5.aA++([r1.1]:Ls)) (b5.aj++([o6.1]:List (af)))) o6.2) else none) else none))) else none)
 else(some (.inl (b4,b5,b1000000)))
theorem pZ(R_block_reader_block__o0_s2:ak->Option (af×ak))(hR_block_reader_block__o0_s2:yl R_block_reader_block__o0_s2)(n:Nat)(v1:Int)(k:Nat):∀(b4:af)(b5:af)(b1000000:ak)(o:Sum (af×af×ak) (af×ak)),bW R_block_reader_block__o0_s2 n v1 k b4 b5 b1000000=some o->(Sum.elim (fun s=>To 114 F0 w0 [(4,.own 4 0),(5,.own 5 0)] [(4,26,qc9 s.1),(5,26,dQ 4302 4303 s.2.1),(4302,9,[fQ s.2.1.aA]),(4303,26,[aQ s.2.1.aj]),(504000,50,[rc5 s.2.2.f_l]),(1000000,46,aL 504000 s.2.2)] (.exit 0) Q) (fun s=>To 114 F0 w0 [(4,.own 4 0)] [(4,26,qc9 s.1),(504000,50,[rc5 s.2.f_l]),(1000000,46,aL 504000 s.2)] .ret Q)) o->WL Tryz.prog 114 F0 w0 [(0,.own 1000000 0),(1,vi v1),(4,.own 4 0),(5,.own 5 0)] [(4,26,qc9 b4),(5,26,dQ 4302 4303 b5),(4302,9,[fQ b5.aA]),(4303,26,[aQ b5.aj]),(fh b1000000),(iw b1000000)] (cI (cI (cA (cB (cB (cI (cB (cF Tryz.f56)))))))) Q:=by
 induction k with
 |zero=>intro b4 b5 b1000000 o h;cases h
 |succ k ih =>
  intro b4 b5 b1000000 o h hQ
  rw[bW] at h
  refine WL.round (Wp.seq (Wp.seq (Wp.eQ hm hΓ [] [0,1,4,5,28] [4,5,4302,4303,504000,1000000] (K':=[(0,.own 1000000 0),(1,vi v1),(4,.own 4 0),(5,.own 5 0),(28,vb (QD b1000000))]) (L':=[(4,26,qc9 b4),(5,26,dQ 4302 4303 b5),(4302,9,[fQ b5.aA]),(4303,26,[aQ b5.aj]),(fh b1000000),(iw b1000000)]) (ob:=[]) (by kernel_rfl) ax.nil (To.ai (cn h (fun h=>?_) (fun h=>?_))))))
  ·refine Wp.skip (To.ai (Wp.block (Wp.seq ?_)))
   obtain⟨hc9,h⟩:=aK h
   refine Wp.eQ hm hΓ [] [0,1,4,5,6] [4,5,6,4302,4303,504000,1000000] (K':=[(0,.own 1000000 0),(1,vi v1),(4,.own 4 0),(5,.own 5 0),(6,.own 6 0)]) (L':=[(4,26,qc9 b4),(5,26,dQ 4302 4303 b5),(nK b1000000),(4302,9,[fQ b5.aA]),(4303,26,[aQ b5.aj]),(fh b1000000),(iw b1000000)]) (ob:=[(xk b1000000)=true,(xk b1000000)=true]) (by kernel_rfl) (ax.cons hc9 (ax.cons hc9 ax.nil)) (To.ai (Wp.seq ?_))
   obtain⟨r1,hr1,h⟩:=aG h
   refine rc [] 2 [0,1,4,5,6,7,8,9] [4,5,6,4302,4303,504000,1000000] [(0,.own 1000000 0),(1,vi v1),(4,.own 4 0),(5,.own 5 0),(6,.own 6 0),(7,.str r1.1),(8,.str r1.2.1),(9,vi r1.2.2)] [(4,26,qc9 b4),(5,26,dQ 4302 4303 b5),(nK b1000000),(4302,9,[fQ b5.aA]),(4303,26,[aQ b5.aj]),(fh b1000000),(iw b1000000)] (u6 n ((l5 b1000000).au) _ hr1) (To.ai (Wp.seq (Wp.block (Wp.seq ?_))))
   obtain⟨r2,hr2,h⟩:=aG h
   obtain⟨x3,hx3,h⟩:=bV h
   refine rr [] [(19,vb r2)] [] [0,1,4,5,6,7,8,9,46] [4,5,6,4302,4303,504000,1000000] [(0,.own 1000000 0),(1,vi v1),(4,.own 4 0),(5,.own 5 0),(6,.own 6 0),(7,.str r1.1),(8,.str r1.2.1),(9,vi r1.2.2),(46,vb (bif (Nh b1000000 v1) then true else(bif (((l5 b1000000).aI)==v1) then(bif (decide (r1.2.2<0)) then true else(bif (decide (r1.2.2>0)) then r2 else false)) else false)))] [(4,26,qc9 b4),(5,26,dQ 4302 4303 b5),(nK b1000000),(4302,9,[fQ b5.aA]),(4303,26,[aQ b5.aj]),(fh b1000000),(iw b1000000)] [((((decide (r1.2.2>0))==true)&&(((decide (r1.2.2<0))==false)&&(((((l5 b1000000).aI)==v1)==true)&&((Nh b1000000 v1)==false))))=true->CX Tryz.prog 88 [ls b5.aA,.str r1.1] (vb r2))] (ax.cons (fun hg=>cx (Kv n b5.aA r1.1 _ (jC hg hr2))) ax.nil) (To.eq (K':=[(0,.own 1000000 0),(1,vi v1),(4,.own 4 0),(5,.own 5 0),(6,.own 6 0),(7,.str r1.1),(8,.str r1.2.1),(9,vi r1.2.2),(46,vb x3)]) (L':=[(4,26,qc9 b4),(5,26,dQ 4302 4303 b5),(nK b1000000),(4302,9,[fQ b5.aA]),(4303,26,[aQ b5.aj]),(fh b1000000),(iw b1000000)]) (by cases hx3;rfl) (by cases hx3;rfl) (To.ai (cn h (fun h=>?_) (fun h=>?_))))
   ·refine Wp.seq ?_
    obtain⟨r4,hr4,h⟩:=bV h
    refine rb [] 3 ⟨[(1000000,1000000),(1010000,504000)],[(200,504000),(1000000,1000000)],[.own 1000000 0,vi ((l5 b1000000).eG),vi 3],[(tu b1000000),(uU b1000000)],.agg (qc9 r4.1),[(200,50,[rc5 r4.2.f_l]),(1000000,46,aL 200 r4.2)]⟩ [4] [4,504000,1000000] [(4,.own 4 0)] [(4,26,qc9 r4.1),(504000,50,[rc5 r4.2.f_l]),(1000000,46,aL 504000 r4.2)] ((ft ((l5 b1000000).eG) 3 b1000000 _ hr4)) (To.ai (Wp.ret (To.aX (To.aO (To.aX (To.aO ?_))))))
    cases h
    exact hQ
   ·refine Wp.seq ?_
    obtain⟨x5,hx5,h⟩:=bV h
    refine rg [0,1,4,5,6,7,8,75] [4,5,6,4302,4303,504000,1000000] [(0,.own 1000000 0),(1,vi v1),(4,.own 4 0),(5,.own 5 0),(6,.own 6 0),(7,.str r1.1),(8,.str r1.2.1),(75,vb (bif (decide (((l5 b1000000).aI)<v1)) then true else(r1.2.2==0)))] [(4,26,qc9 b4),(5,26,dQ 4302 4303 b5),(nK b1000000),(4302,9,[fQ b5.aA]),(4303,26,[aQ b5.aj]),(fh b1000000),(iw b1000000)] (To.eq (K':=[(0,.own 1000000 0),(1,vi v1),(4,.own 4 0),(5,.own 5 0),(6,.own 6 0),(7,.str r1.1),(8,.str r1.2.1),(75,vb x5)]) (L':=[(4,26,qc9 b4),(5,26,dQ 4302 4303 b5),(nK b1000000),(4302,9,[fQ b5.aA]),(4303,26,[aQ b5.aj]),(fh b1000000),(iw b1000000)]) (by cases hx5;rfl) (by cases hx5;rfl) (To.ai (cn h (fun h=>?_) (fun h=>?_))))
    ·refine Wp.exit (To.xB (by decide) (To.dZ (To.xB (by decide) (To.dZ (kt [4,5] [4,5,4302,4303,504000,1000000] [(4,.own 4 0),(5,.own 5 0)] [(4,26,qc9 b4),(5,26,dQ 4302 4303 b5),(4302,9,[fQ b5.aA]),(4303,26,[aQ b5.aj]),(fh b1000000),(iw b1000000)] ?_)))))
     cases h
     exact hQ
    ·refine Wp.skip (To.br (To.ai (Wp.seq (rg [0,1,4,5,6,7,8] [4,5,6,4302,4303,504000,1000000] [(0,.own 1000000 0),(1,vi v1),(4,.own 4 0),(5,.own 5 0),(6,.own 6 0),(7,.str r1.1),(8,.str r1.2.1)] [(4,26,qc9 b4),(5,26,dQ 4302 4303 b5),(nK b1000000),(4302,9,[fQ b5.aA]),(4303,26,[aQ b5.aj]),(fh b1000000),(zK b1000000)] (To.ai (Wp.seq (rg [0,1,4,5,6,7,8,10] [4,5,6,10,4302,4303,504000,1000000] [(0,.own 1000000 0),(1,vi v1),(4,.own 4 0),(5,.own 5 0),(6,.own 6 0),(7,.str r1.1),(8,.str r1.2.1),(10,.own 10 0)] [(4,26,qc9 b4),(5,26,dQ 4302 4303 b5),(nK b1000000),(10,26,[vi 0,.str [],.val (.slice none 0 0),.val (.slice none 0 0)]),(4302,9,[fQ b5.aA]),(4303,26,[aQ b5.aj]),(fh b1000000),(zK b1000000)] (To.ai (Wp.seq (Wp.seq ?_))))))))))
     refine rg [0,1,4,5,6,7,8,10,92] [4,5,6,10,4302,4303,504000,1000000] [(0,.own 1000000 0),(1,vi v1),(4,.own 4 0),(5,.own 5 0),(6,.own 6 0),(7,.str r1.1),(8,.str r1.2.1),(10,.own 10 0),(92,vb (!(r1.2.1==[])))] [(4,26,qc9 b4),(5,26,dQ 4302 4303 b5),(nK b1000000),(10,26,[vi 0,.str [],.val (.slice none 0 0),.val (.slice none 0 0)]),(4302,9,[fQ b5.aA]),(4303,26,[aQ b5.aj]),(fh b1000000),(zK b1000000)] (To.ai ?_)
     obtain⟨o6,ho6,h⟩:=aG h
     refine kw [0,1,4,5,6,7,8,10,92] [4,5,6,10,4302,4303,504000,1000000] [(0,.own 1000000 0),(1,vi v1),(4,.own 4 0),(5,.own 5 0),(6,.own 6 0),(7,.str r1.1),(8,.str r1.2.1),(10,.own 10 0),(92,vb (!(r1.2.1==[])))] [(4,26,qc9 b4),(5,26,dQ 4302 4303 b5),(nK b1000000),(10,26,[vi 0,.str [],.val (.slice none 0 0),.val (.slice none 0 0)]),(4302,9,[fQ b5.aA]),(4303,26,[aQ b5.aj]),(fh b1000000),(zK b1000000)] (Wp.weak (K':=[(0,.own 1000000 0),(1,vi v1),(4,.own 4 0),(5,.own 5 0),(6,.own 6 0),(7,.str r1.1),(8,.str r1.2.1),(10,.own 10 0),(92,vb (!(r1.2.1==[])))]) (L':=[(4,26,qc9 b4),(5,26,dQ 4302 4303 b5),(nK b1000000),(10,26,[vi 0,.str [],ls [],tn8 []]),(4302,9,[fQ b5.aA]),(4303,26,[aQ b5.aj]),(fh b1000000),(zK b1000000)]) (.cons (.refl _) (.cons (.refl _) (.cons (.refl _) (.cons (.refl _) (.cons (.refl _) (.cons (.refl _) (.cons (.refl _) (.cons (.refl _) (.cons (.refl _) .nil))))))))) (.cons (.cons (.refl _) (.cons (.refl _) (.cons (.refl _) (.cons (.refl _) .nil)))) (.cons (.cons (.refl _) (.cons (.refl _) (.cons (.refl _) (.cons (.refl _) .nil)))) (.cons (.cons (.refl _) (.cons (.refl _) (.cons (.refl _) .nil))) (.cons (.cons (.refl _) (.cons (.refl _) (.cons (.zero _ _) (.cons (.ig _ _ _) .nil)))) (.cons (.cons (.refl _) .nil) (.cons (.cons (.refl _) .nil) (.cons (.cons (.refl _) .nil) (.cons (.cons (.refl _) (.cons (.refl _) (.cons (.refl _) (.cons (.refl _) .nil)))) .nil)))))))) (qg R_block_reader_block__o0_s2 hR_block_reader_block__o0_s2 n v1 r1.1 r1.2.1 (!(r1.2.1==[])) b4 b5 (l5 b1000000) zx7 (NF b1000000) o6 ho6 (To.ai ?_)))
     obtain⟨hc7,h⟩:=aK h
     obtain⟨hc8,h⟩:=aK h
     refine Wp.sG hm hΓ [] [(3,ls [r1.1]),(4,ls (b5.aA++([r1.1]:Ls))),(8,dP [o6.1]),(9,dP (b5.aj++([o6.1]:List (af))))] [] [0,1,4,5,7,10,101,102,103,104,105,106,107,108,109,110,111,112] [4,5,10,104,105,109,110,4302,4303,504000,1000000] [0,1,4,5] [4,5,105,110,504000,1000000] (K':=[(0,.own 1000000 0),(1,vi v1),(4,.own 4 0),(5,.own 5 0)]) (L':=[(4,26,qc9 b4),(5,26,dQ 105 110 b5),(105,9,[fQ (b5.aA++([r1.1]:Ls))]),(110,26,[aQ (b5.aj++([o6.1]:List (af)))]),(504000,50,[rc5 o6.2.f_l]),(1000000,46,aL 504000 o6.2)]) (ob:=[(fV 1 [.str r1.1] 1 (ls [r1.1])/\aV (ls [r1.1])),(decide ((List.length b5.aA+List.length ([r1.1]:Ls))*(16+1)<=limit))=true,(i7 [] gw b5.aA (List.flatMap gw ([r1.1]:Ls)) (List.length ([r1.1]:Ls)) (ls (b5.aA++([r1.1]:Ls)))/\aV (ls (b5.aA++([r1.1]:Ls)))),(fV 4 (qc9 o6.1) 1 (dP [o6.1])/\aV (dP [o6.1])),(decide ((List.length b5.aj+List.length ([o6.1]:List (af)))*(72+1)<=limit))=true,(i7 zx7 dU b5.aj (List.flatMap dU ([o6.1]:List (af))) (List.length ([o6.1]:List (af))) (dP (b5.aj++([o6.1]:List (af))))/\aV (dP (b5.aj++([o6.1]:List (af)))))]) (by kernel_rfl) (by kernel_rfl) (ax.cons (jY (by kernel_rfl) rfl (by kernel_rfl) (fC _)) (ax.cons hc7 (ax.cons (ja rfl rfl (fC _)) (ax.cons (jY (by kernel_rfl) rfl (by kernel_rfl) (bP _)) (ax.cons hc8 (ax.cons (ja rfl rfl (bP _)) ax.nil)))))) (To.br (nt [0,1,4,5] [4,5,105,110,504000,1000000] [(105,4302),(110,4303)] [0,1,4,5] [4,5,4302,4303,504000,1000000] [(0,.own 1000000 0),(1,vi v1),(4,.own 4 0),(5,.own 5 0)] [(4,26,qc9 b4),(5,26,dQ 4302 4303 b5),(4302,9,[fQ (b5.aA++([r1.1]:Ls))]),(4303,26,[aQ (b5.aj++([o6.1]:List (af)))]),(504000,50,[rc5 o6.2.f_l]),(1000000,46,aL 504000 o6.2)] (To.again ?_)))
     exact ih b4 (af.mk b5.aF b5.au (b5.aA++([r1.1]:Ls)) (b5.aj++([o6.1]:List (af)))) o6.2 _ h hQ
  ·refine Wp.exit (To.dZ (To.dZ (kt [4,5] [4,5,4302,4303,504000,1000000] [(4,.own 4 0),(5,.own 5 0)] [(4,26,qc9 b4),(5,26,dQ 4302 4303 b5),(4302,9,[fQ b5.aA]),(4303,26,[aQ b5.aj]),(fh b1000000),(iw b1000000)] ?_)))
   cases h
   exact hQ
def iy(R_block_reader_block__o0_s2:ak->Option (af×ak))(n:Nat)(a1:Int)(h0:ak):Option (af×ak) :=
 (bW R_block_reader_block__o0_s2 n a1 n (af.mk 0 [] [] []) (af.mk 3 [] [] []) h0).bind fun o1 =>
 (Sum.elim (fun o1=>some (o1.2.1,o1.2.2)) (fun o1=>some (o1.1,o1.2))) o1
theorem rW(R_block_reader_block__o0_s2:ak->Option (af×ak))(hR_block_reader_block__o0_s2:yl R_block_reader_block__o0_s2)(n:Nat)(a1:Int)(h0:ak)(r:af×ak)(h:iy R_block_reader_block__o0_s2 n a1 h0=some r):aY Tryz.prog 56 [.own 1000000 0,vi a1] [(1000000,46,aL 1010000 h0),(1010000,50,[rc5 h0.f_l])] (.agg (qc9 r.1)) [(200,50,[rc5 r.2.f_l]),(1000000,46,aL 200 r.2)]:=by
 unfold iy at h
 refine bo Tryz.f56 rfl fun F0 w0=>?_
 refine nw [0,1] [1000000,1010000] [(1010000,504000)] [0,1] [504000,1000000] [(0,.own 1000000 0),(1,vi a1)] [(504000,50,[rc5 h0.f_l]),(1000000,46,aL 504000 h0)] (Wp.seq (rg [0,1,4] [4,504000,1000000] [(0,.own 1000000 0),(1,vi a1),(4,.own 4 0)] [(4,26,[vi 0,.str [],.val (.slice none 0 0),.val (.slice none 0 0)]),(504000,50,[rc5 h0.f_l]),(1000000,46,aL 504000 h0)] (To.ai (Wp.scope (Wp.seq (rg [0,1,4,5] [4,5,504000,1000000] [(0,.own 1000000 0),(1,vi a1),(4,.own 4 0),(5,.own 5 0)] [(4,26,[vi 0,.str [],.val (.slice none 0 0),.val (.slice none 0 0)]),(5,26,[vi 3,.str [],.val (.slice none 0 0),.val (.slice none 0 0)]),(504000,50,[rc5 h0.f_l]),(1000000,46,aL 504000 h0)] (To.ai (Wp.seq (Wp.label (To.ai (Wp.seq (Wp.block ?_))))))))))))
 obtain⟨o1,ho1,h⟩:=aG h
 refine kw [0,1,4,5] [4,5,504000,1000000] [(0,.own 1000000 0),(1,vi a1),(4,.own 4 0),(5,.own 5 0)] [(4,26,[vi 0,.str [],.val (.slice none 0 0),.val (.slice none 0 0)]),(5,26,[vi 3,.str [],.val (.slice none 0 0),.val (.slice none 0 0)]),(504000,50,[rc5 h0.f_l]),(1000000,46,aL 504000 h0)] (Wp.pre (St.nF 5 2 4302 9 (fC _) (by decide) (by kernel_rfl) (L':=[(4,26,[vi 0,.str [],.val (.slice none 0 0),.val (.slice none 0 0)]),(5,26,[vi 3,.str [],.row 4302,.val (.slice none 0 0)]),(504000,50,[rc5 h0.f_l]),(1000000,46,aL 504000 h0)]) (by kernel_rfl)) (kw [0,1,4,5] [4,5,4302,504000,1000000] [(0,.own 1000000 0),(1,vi a1),(4,.own 4 0),(5,.own 5 0)] [(4,26,[vi 0,.str [],.val (.slice none 0 0),.val (.slice none 0 0)]),(5,26,[vi 3,.str [],.row 4302,.val (.slice none 0 0)]),(4302,9,[dO []]),(504000,50,[rc5 h0.f_l]),(1000000,46,aL 504000 h0)] (Wp.pre (St.settle (ks:=[4302]) (kk:=[0,1,4,5]) (kl:=[4,5,4302,504000,1000000]) (K':=[(0,.own 1000000 0),(1,vi a1),(4,.own 4 0),(5,.own 5 0)]) (L':=[(4,26,[vi 0,.str [],.val (.slice none 0 0),.val (.slice none 0 0)]),(5,26,[vi 3,.str [],.row 4302,.val (.slice none 0 0)]),(4302,9,[fQ []]),(504000,50,[rc5 h0.f_l]),(1000000,46,aL 504000 h0)]) (by kernel_rfl)) (Wp.pre (St.nF 5 3 4303 26 (bP _) (by decide) (by kernel_rfl) (L':=[(4,26,[vi 0,.str [],.val (.slice none 0 0),.val (.slice none 0 0)]),(5,26,[vi 3,.str [],.row 4302,.row 4303]),(4302,9,[fQ []]),(504000,50,[rc5 h0.f_l]),(1000000,46,aL 504000 h0)]) (by kernel_rfl)) (kw [0,1,4,5] [4,5,4302,4303,504000,1000000] [(0,.own 1000000 0),(1,vi a1),(4,.own 4 0),(5,.own 5 0)] [(4,26,[vi 0,.str [],.val (.slice none 0 0),.val (.slice none 0 0)]),(5,26,[vi 3,.str [],.row 4302,.row 4303]),(4302,9,[fQ []]),(4303,26,[aQ []]),(504000,50,[rc5 h0.f_l]),(1000000,46,aL 504000 h0)] (Wp.weak (K':=[(0,.own 1000000 0),(1,vi a1),(4,.own 4 0),(5,.own 5 0)]) (L':=[(4,26,[vi 0,.str [],ls [],tn8 []]),(5,26,[vi 3,.str [],.row 4302,.row 4303]),(4302,9,[fQ []]),(4303,26,[aQ []]),(504000,50,[rc5 h0.f_l]),(1000000,46,aL 504000 h0)]) (.cons (.refl _) (.cons (.refl _) (.cons (.refl _) (.cons (.refl _) .nil)))) (.cons (.cons (.refl _) (.cons (.refl _) (.cons (.zero _ _) (.cons (.ig _ _ _) .nil)))) (.cons (.cons (.refl _) (.cons (.refl _) (.cons (.refl _) (.cons (.refl _) .nil)))) (.cons (.cons (.refl _) .nil) (.cons (.cons (.refl _) .nil) (.cons (.cons (.refl _) .nil) (.cons (.cons (.refl _) (.cons (.refl _) (.cons (.refl _) (.cons (.refl _) .nil)))) .nil)))))) (Wp.lD (pZ R_block_reader_block__o0_s2 hR_block_reader_block__o0_s2 n a1 n zx7 (af.mk 3 [] [] []) h0 o1 ho1 ?_))))))))
 rcases o1 with o1|o1
 ·replace h:=jy h
  refine To.jH (To.ai (Wp.seq (rg [4] [4,4302,4303,504000,1000000] [(4,.own 4 0)] [(4,26,dQ 4302 4303 o1.2.1),(4302,9,[fQ o1.2.1.aA]),(4303,26,[aQ o1.2.1.aj]),(504000,50,[rc5 o1.2.2.f_l]),(1000000,46,aL 504000 o1.2.2)] (To.ai (Wp.ret (To.scope (.inr (.inl rfl)) (kt [4] [4,4302,4303,504000,1000000] [(4,.own 4 0)] [(4,26,dQ 4302 4303 o1.2.1),(4302,9,[fQ o1.2.1.aA]),(4303,26,[aQ o1.2.1.aj]),(504000,50,[rc5 o1.2.2.f_l]),(1000000,46,aL 504000 o1.2.2)] (To.pre (St.settle (ks:=[4303]) (kk:=[4]) (kl:=[4,4302,4303,504000,1000000]) (K':=[(4,.own 4 0)]) (L':=[(4,26,dQ 4302 4303 o1.2.1),(4302,9,[fQ o1.2.1.aA]),(4303,26,[rN o1.2.1.aj]),(504000,50,[rc5 o1.2.2.f_l]),(1000000,46,aL 504000 o1.2.2)]) (by kernel_rfl)) (To.pre (St.Et [4] (L':=[(4,26,I8 o1.2.1),(4302,9,[fQ o1.2.1.aA]),(4303,26,[rN o1.2.1.aj]),(504000,50,[rc5 o1.2.2.f_l]),(1000000,46,aL 504000 o1.2.2)]) (by kernel_rfl)) (To.weak (K':=[(4,.own 4 0)]) (L':=[(4,26,qc9 o1.2.1),(4302,9,[fQ o1.2.1.aA]),(4303,26,[rN o1.2.1.aj]),(504000,50,[rc5 o1.2.2.f_l]),(1000000,46,aL 504000 o1.2.2)]) (.cons (.refl _) .nil) (.cons (.cons (.refl _) (.cons (.refl _) (.cons (.refl _) (.cons (.close _ _ _ _) .nil)))) (.cons (.cons (.refl _) .nil) (.cons (.cons (.refl _) .nil) (.cons (.cons (.refl _) .nil) (.cons (.cons (.refl _) (.cons (.refl _) (.cons (.refl _) (.cons (.refl _) .nil)))) .nil))))) ?_))))))))))
  refine nt [4] [4,504000,1000000] [(504000,200)] [4] [4,200,1000000] [(4,.own 4 0)] [(4,26,qc9 o1.2.1),(200,50,[rc5 o1.2.2.f_l]),(1000000,46,aL 200 o1.2.2)] ?_
  cases h
  exact To.ff hΓ [200,1000000] (by kernel_rfl) (by kernel_rfl)
 ·replace h:=ju h
  refine To.aX (To.aO (To.scope (.inr (.inl rfl)) (nt [4] [4,504000,1000000] [(504000,200)] [4] [4,200,1000000] [(4,.own 4 0)] [(4,26,qc9 o1.1),(200,50,[rc5 o1.2.f_l]),(1000000,46,aL 200 o1.2)] ?_)))
  cases h
  exact To.ff hΓ [200,1000000] (by kernel_rfl) (by kernel_rfl)
def eU(R_block_reader_block__o0_s2:ak->Option (af×ak))(n:Nat)(v7:Int)(b2:af)(b3:av)(b4:af)(b1000000:ak):Option (Sum (af×af×ak) (af×ak)) :=
 if(fl b3.au)=true then((iV R_block_reader_block__o0_s2 n b3.aI b1000000).bind fun r2 =>
 some (.inl (b2,r2.1,r2.2)))
 else(if(decide (v7>0))=true then((iy R_block_reader_block__o0_s2 n b3.aI b1000000).bind fun r3 =>
 some (.inl (b2,r3.1,r3.2)))
 else(if(decide (v7<0))=true then(aP (cZ b3.eG 3 b1000000) fun r4 =>
 some (.inr (r4.1,r4.2)))
 else((dG n b3.eG b3.au (ak.mk b1000000.f_l (IntKind.wrap .i64 (b1000000.aC+1)) b1000000.mF b1000000.f_e)).bind fun r5 =>
 some (.inl (b2,r5.1,r5.2)))))
theorem oR(R_block_reader_block__o0_s2:ak->Option (af×ak))(hR_block_reader_block__o0_s2:yl R_block_reader_block__o0_s2)(n:Nat)(v7:Int)(b2:af)(b3:av)(b4:af)(b1000000:ak)(o:Sum (af×af×ak) (af×ak))(h:eU R_block_reader_block__o0_s2 n v7 b2 b3 b4 b1000000=some o)(hQ:(Sum.elim (fun s=>To 61 F0 w0 [(2,.own 2 0),(4,.own 4 0)] [(2,26,qc9 s.1),(4,26,qc9 s.2.1),(504000,50,[rc5 s.2.2.f_l]),(1000000,46,aL 504000 s.2.2)] .normal Q) (fun s=>To 61 F0 w0 [(2,.own 2 0)] [(2,26,qc9 s.1),(504000,50,[rc5 s.2.f_l]),(1000000,46,aL 504000 s.2)] .ret Q)) o):Wp Tryz.prog 61 F0 w0 [(0,.own 1000000 0),(2,.own 2 0),(3,.own 3 0),(4,.own 4 0),(7,vi v7)] [(2,26,qc9 b2),(3,50,qc3 b3),(4,26,qc9 b4),(fh b1000000),(iw b1000000)] (cB (cA (cB (cB (cB (cF Tryz.f24)))))) Q:=by
 unfold eU at h
 refine Wp.block (Wp.seq (rc [] 2 [0,2,3,4,7,38] [2,3,4,504000,1000000] [(0,.own 1000000 0),(2,.own 2 0),(3,.own 3 0),(4,.own 4 0),(7,vi v7),(38,vb (fl b3.au))] [(2,26,qc9 b2),(3,50,qc3 b3),(4,26,qc9 b4),(fh b1000000),(iw b1000000)] (pg b3.au _ rfl) (To.ai (cn h (fun h=>?_) (fun h=>?_)))))
 ·obtain⟨r2,hr2,h⟩:=aG h
  refine rb [] 3 ⟨[(1000000,1000000),(1010000,504000)],[(200,504000),(1000000,1000000)],[.own 1000000 0,vi b3.aI],[(tu b1000000),(uU b1000000)],.agg (qc9 r2.1),[(200,50,[rc5 r2.2.f_l]),(1000000,46,aL 200 r2.2)]⟩ [2,4] [2,4,504000,1000000] [(2,.own 2 0),(4,.own 4 0)] [(2,26,qc9 b2),(4,26,qc9 r2.1),(504000,50,[rc5 r2.2.f_l]),(1000000,46,aL 504000 r2.2)] ((rJ R_block_reader_block__o0_s2 hR_block_reader_block__o0_s2 n b3.aI b1000000 _ hr2)) (To.br ?_)
  cases h
  exact hQ
 ·refine Wp.seq (rg [0,2,3,4,7,46] [2,3,4,504000,1000000] [(0,.own 1000000 0),(2,.own 2 0),(3,.own 3 0),(4,.own 4 0),(7,vi v7),(46,vb (decide (v7>0)))] [(2,26,qc9 b2),(3,50,qc3 b3),(4,26,qc9 b4),(fh b1000000),(iw b1000000)] (To.ai (cn h (fun h=>?_) (fun h=>?_))))
  ·obtain⟨r3,hr3,h⟩:=aG h
   refine rb [] 3 ⟨[(1000000,1000000),(1010000,504000)],[(200,504000),(1000000,1000000)],[.own 1000000 0,vi b3.aI],[(tu b1000000),(uU b1000000)],.agg (qc9 r3.1),[(200,50,[rc5 r3.2.f_l]),(1000000,46,aL 200 r3.2)]⟩ [2,4] [2,4,504000,1000000] [(2,.own 2 0),(4,.own 4 0)] [(2,26,qc9 b2),(4,26,qc9 r3.1),(504000,50,[rc5 r3.2.f_l]),(1000000,46,aL 504000 r3.2)] ((rW R_block_reader_block__o0_s2 hR_block_reader_block__o0_s2 n b3.aI b1000000 _ hr3)) (To.br ?_)
   cases h
   exact hQ
  ·refine Wp.seq (rg [0,2,3,4,53] [2,3,4,504000,1000000] [(0,.own 1000000 0),(2,.own 2 0),(3,.own 3 0),(4,.own 4 0),(53,vb (decide (v7<0)))] [(2,26,qc9 b2),(3,50,qc3 b3),(4,26,qc9 b4),(fh b1000000),(iw b1000000)] (To.ai (cn h (fun h=>?_) (fun h=>?_))))
   ·refine Wp.seq ?_
    obtain⟨r4,hr4,h⟩:=bV h
    refine rb [] 3 ⟨[(1000000,1000000),(1010000,504000)],[(200,504000),(1000000,1000000)],[.own 1000000 0,vi b3.eG,vi 3],[(tu b1000000),(uU b1000000)],.agg (qc9 r4.1),[(200,50,[rc5 r4.2.f_l]),(1000000,46,aL 200 r4.2)]⟩ [2] [2,504000,1000000] [(2,.own 2 0)] [(2,26,qc9 r4.1),(504000,50,[rc5 r4.2.f_l]),(1000000,46,aL 504000 r4.2)] ((ft b3.eG 3 b1000000 _ hr4)) (To.ai (Wp.ret (To.aX ?_)))
    cases h
    exact hQ
   ·refine Wp.seq (rg [0,2,3,4] [2,3,4,504000,1000000] [(0,.own 1000000 0),(2,.own 2 0),(3,.own 3 0),(4,.own 4 0)] [(2,26,qc9 b2),(3,50,qc3 b3),(4,26,qc9 b4),(fh b1000000),(zK b1000000)] (To.ai ?_))
    obtain⟨r5,hr5,h⟩:=aG h
    refine rb [] 5 ⟨[(1000000,1000000),(1010000,504000)],[(200,504000),(1000000,1000000)],[.own 1000000 0,vi b3.eG,.str b3.au],[(NL b1000000),(uU b1000000)],.agg (qc9 r5.1),[(200,50,[rc5 r5.2.f_l]),(1000000,46,aL 200 r5.2)]⟩ [2,4] [2,4,504000,1000000] [(2,.own 2 0),(4,.own 4 0)] [(2,26,qc9 b2),(4,26,qc9 r5.1),(504000,50,[rc5 r5.2.f_l]),(1000000,46,aL 504000 r5.2)] ((mo n b3.eG b3.au (NF b1000000) _ hr5)) (To.br ?_)
    cases h
    exact hQ
def dH(R_block_reader_block__o0_s2:ak->Option (af×ak))(n:Nat)(h0:ak):Option (af×ak) :=
 if(decide (0<=h0.aC/\h0.aC<(List.length h0.f_l:Int)))=true then((jk n (((h0.f_l)[Int.toNat h0.aC]?.getD (av.mk 0 0 [])).au)).bind fun r1 =>
 (eU R_block_reader_block__o0_s2 n r1.2.2 (af.mk 0 [] [] []) ((h0.f_l)[Int.toNat h0.aC]?.getD (av.mk 0 0 [])) (af.mk 0 [] [] []) h0).bind fun o2 =>
 (Sum.elim (fun o2=>some (o2.2.1,o2.2.2)) (fun o2=>some (o2.1,o2.2))) o2) else none
theorem pQ(R_block_reader_block__o0_s2:ak->Option (af×ak))(hR_block_reader_block__o0_s2:yl R_block_reader_block__o0_s2)(n:Nat)(h0:ak)(r:af×ak)(h:dH R_block_reader_block__o0_s2 n h0=some r):aY Tryz.prog 24 [.own 1000000 0] [(1000000,46,aL 1010000 h0),(1010000,50,[rc5 h0.f_l])] (.agg (qc9 r.1)) [(200,50,[rc5 r.2.f_l]),(1000000,46,aL 200 r.2)]:=by
 unfold dH at h
 refine bo Tryz.f24 rfl fun F0 w0=>?_
 refine nw [0] [1000000,1010000] [(1010000,504000)] [0] [504000,1000000] [(0,.own 1000000 0)] [(504000,50,[rc5 h0.f_l]),(1000000,46,aL 504000 h0)] (Wp.seq (rg [0,2] [2,504000,1000000] [(0,.own 1000000 0),(2,.own 2 0)] [(2,26,[vi 0,.str [],.val (.slice none 0 0),.val (.slice none 0 0)]),(504000,50,[rc5 h0.f_l]),(1000000,46,aL 504000 h0)] (To.ai (Wp.seq ?_))))
 obtain⟨hc3,h⟩:=aK h
 refine Wp.eQ hm hΓ [] [0,2,3] [2,3,504000,1000000] (K':=[(0,.own 1000000 0),(2,.own 2 0),(3,.own 3 0)]) (L':=[(2,26,[vi 0,.str [],.val (.slice none 0 0),.val (.slice none 0 0)]),(3,50,[vi (((h0.f_l)[Int.toNat h0.aC]?.getD zx4).eG),vi (((h0.f_l)[Int.toNat h0.aC]?.getD zx4).aI),.str (((h0.f_l)[Int.toNat h0.aC]?.getD zx4).au)]),(504000,50,[rc5 h0.f_l]),(1000000,46,aL 504000 h0)]) (ob:=[(decide (0<=h0.aC/\h0.aC<(List.length h0.f_l:Int)))=true,(decide (0<=h0.aC/\h0.aC<(List.length h0.f_l:Int)))=true]) (by kernel_rfl) (ax.cons hc3 (ax.cons hc3 ax.nil)) (To.ai (Wp.seq (rg [0,2,3,4] [2,3,4,504000,1000000] [(0,.own 1000000 0),(2,.own 2 0),(3,.own 3 0),(4,.own 4 0)] [(2,26,[vi 0,.str [],.val (.slice none 0 0),.val (.slice none 0 0)]),(3,50,[vi (((h0.f_l)[Int.toNat h0.aC]?.getD zx4).eG),vi (((h0.f_l)[Int.toNat h0.aC]?.getD zx4).aI),.str (((h0.f_l)[Int.toNat h0.aC]?.getD zx4).au)]),(4,26,[vi 0,.str [],.val (.slice none 0 0),.val (.slice none 0 0)]),(504000,50,[rc5 h0.f_l]),(1000000,46,aL 504000 h0)] (To.ai (Wp.seq (Wp.seq ?_))))))
 obtain⟨r1,hr1,h⟩:=aG h
 refine rc [] 2 [0,2,3,4,7] [2,3,4,504000,1000000] [(0,.own 1000000 0),(2,.own 2 0),(3,.own 3 0),(4,.own 4 0),(7,vi r1.2.2)] [(2,26,[vi 0,.str [],.val (.slice none 0 0),.val (.slice none 0 0)]),(3,50,[vi (((h0.f_l)[Int.toNat h0.aC]?.getD zx4).eG),vi (((h0.f_l)[Int.toNat h0.aC]?.getD zx4).aI),.str (((h0.f_l)[Int.toNat h0.aC]?.getD zx4).au)]),(4,26,[vi 0,.str [],.val (.slice none 0 0),.val (.slice none 0 0)]),(504000,50,[rc5 h0.f_l]),(1000000,46,aL 504000 h0)] (u6 n (((h0.f_l)[Int.toNat h0.aC]?.getD zx4).au) _ hr1) (To.ai ?_)
 obtain⟨o2,ho2,h⟩:=aG h
 refine kw [0,2,3,4,7] [2,3,4,504000,1000000] [(0,.own 1000000 0),(2,.own 2 0),(3,.own 3 0),(4,.own 4 0),(7,vi r1.2.2)] [(2,26,[vi 0,.str [],.val (.slice none 0 0),.val (.slice none 0 0)]),(3,50,[vi (((h0.f_l)[Int.toNat h0.aC]?.getD zx4).eG),vi (((h0.f_l)[Int.toNat h0.aC]?.getD zx4).aI),.str (((h0.f_l)[Int.toNat h0.aC]?.getD zx4).au)]),(4,26,[vi 0,.str [],.val (.slice none 0 0),.val (.slice none 0 0)]),(504000,50,[rc5 h0.f_l]),(1000000,46,aL 504000 h0)] (Wp.weak (K':=[(0,.own 1000000 0),(2,.own 2 0),(3,.own 3 0),(4,.own 4 0),(7,vi r1.2.2)]) (L':=[(2,26,[vi 0,.str [],ls [],tn8 []]),(3,50,[vi (((h0.f_l)[Int.toNat h0.aC]?.getD zx4).eG),vi (((h0.f_l)[Int.toNat h0.aC]?.getD zx4).aI),.str (((h0.f_l)[Int.toNat h0.aC]?.getD zx4).au)]),(4,26,[vi 0,.str [],ls [],tn8 []]),(504000,50,[rc5 h0.f_l]),(1000000,46,aL 504000 h0)]) (.cons (.refl _) (.cons (.refl _) (.cons (.refl _) (.cons (.refl _) (.cons (.refl _) .nil))))) (.cons (.cons (.refl _) (.cons (.refl _) (.cons (.zero _ _) (.cons (.ig _ _ _) .nil)))) (.cons (.cons (.refl _) (.cons (.refl _) (.cons (.refl _) .nil))) (.cons (.cons (.refl _) (.cons (.refl _) (.cons (.zero _ _) (.cons (.ig _ _ _) .nil)))) (.cons (.cons (.refl _) .nil) (.cons (.cons (.refl _) (.cons (.refl _) (.cons (.refl _) (.cons (.refl _) .nil)))) .nil))))) (oR R_block_reader_block__o0_s2 hR_block_reader_block__o0_s2 n r1.2.2 zx7 ((h0.f_l)[Int.toNat h0.aC]?.getD zx4) zx7 h0 o2 ho2 ?_))
 rcases o2 with o2|o2
 ·replace h:=jy h
  refine To.ai (Wp.seq (rg [2] [2,504000,1000000] [(2,.own 2 0)] [(2,26,qc9 o2.2.1),(504000,50,[rc5 o2.2.2.f_l]),(1000000,46,aL 504000 o2.2.2)] (To.ai (Wp.ret (nt [2] [2,504000,1000000] [(504000,200)] [2] [2,200,1000000] [(2,.own 2 0)] [(2,26,qc9 o2.2.1),(200,50,[rc5 o2.2.2.f_l]),(1000000,46,aL 200 o2.2.2)] ?_)))))
  cases h
  exact To.ff hΓ [200,1000000] (by kernel_rfl) (by kernel_rfl)
 ·replace h:=ju h
  refine To.aO (nt [2] [2,504000,1000000] [(504000,200)] [2] [2,200,1000000] [(2,.own 2 0)] [(2,26,qc9 o2.1),(200,50,[rc5 o2.2.f_l]),(1000000,46,aL 200 o2.2)] ?_)
  cases h
  exact To.ff hΓ [200,1000000] (by kernel_rfl) (by kernel_rfl)
def bX:Nat->ak->Option (af×ak)
 |0=>fun _=>none
 |n+1=>dH (bX n) n
theorem qe(n:Nat):∀(h0:ak)(r:af×ak),bX n h0=some r->aY Tryz.prog 24 [.own 1000000 0] [(1000000,46,aL 1010000 h0),(1010000,50,[rc5 h0.f_l])] (.agg (qc9 r.1)) [(200,50,[rc5 r.2.f_l]),(1000000,46,aL 200 r.2)]:=by
 induction n with
 |zero=>intro h0 r h;cases h
 |succ n ih=>exact fun h0 r h=>pQ (bX n) ih n h0 r h
def nI(n:Nat)(v46:Bool)(b2:af)(b9:af)(b27:ak):Option (ak) :=
 if v46=true then(if(decide (0<=b27.aC/\b27.aC<(List.length b27.f_l:Int)))=true then(aP (cZ (((b27.f_l)[Int.toNat b27.aC]?.getD (av.mk 0 0 [])).eG) 3 b27) fun r3 =>
 some r3.2) else none)
 else some b27
abbrev JC(x0:ak):=((x0.f_l)[Int.toNat x0.aC]?.getD zx4)
theorem yS(n:Nat)(v46:Bool)(b2:af)(b9:af)(b27:ak)(o:ak)(h:nI n v46 b2 b9 b27=some o)(hQ:To 81 F0 w0 [(2,.own 2 0),(8,.own 27 0),(9,.own 9 0)] [(2,26,qc9 b2),(9,26,qc9 b9),(27,46,aL 5620 o),(5620,50,[rc5 o.f_l])] .normal Q):Wp Tryz.prog 81 F0 w0 [(2,.own 2 0),(8,.own 27 0),(9,.own 9 0),(46,vb v46)] [(2,26,qc9 b2),(9,26,qc9 b9),(27,46,aL 5620 b27),(5620,50,[rc5 b27.f_l])] (cB (cA (cB (cB (cB (cB (cB (cB (cF Tryz.f9))))))))) Q:=by
 unfold nI at h
 refine cn h (fun h=>?_) (fun h=>?_)
 ·obtain⟨hc4,h⟩:=aK h
  obtain⟨r3,hr3,h⟩:=bV h
  refine Wp.sG hm hΓ [] [] [(12,⟨[(1000000,27),(1010000,5620)],[(200,5620),(1000000,27)],[.own 1000000 0,vi ((JC b27).eG),vi 3],[(tu b27),(1010000,50,[rc5 b27.f_l])],.agg (qc9 r3.1),[(200,50,[rc5 r3.2.f_l]),(1000000,46,aL 200 r3.2)]⟩)] [2,8,9,46,47,48,49,50,51,52,53,54,55,56,57,58,59] [2,9,27,5620] [2,8,9] [2,9,27,5620] (K':=[(2,.own 2 0),(8,.own 27 0),(9,.own 9 0)]) (L':=[(2,26,qc9 b2),(9,26,qc9 b9),(27,46,aL 5620 r3.2),(5620,50,[rc5 r3.2.f_l])]) (ob:=[(xk b27)=true,(xk b27)=true,rK (aY Tryz.prog) 25 [.own 27 0,vi ((JC b27).eG),vi 3] [some (46,aL 5620 b27),some (50,[rc5 b27.f_l])] ⟨[(1000000,27),(1010000,5620)],[(200,5620),(1000000,27)],[.own 1000000 0,vi ((JC b27).eG),vi 3],[(tu b27),(1010000,50,[rc5 b27.f_l])],.agg (qc9 r3.1),[(200,50,[rc5 r3.2.f_l]),(1000000,46,aL 200 r3.2)]⟩]) (by kernel_rfl) (by kernel_rfl) (ax.cons hc4 (ax.cons hc4 (ax.cons (⟨(ft ((JC b27).eG) 3 b27 _ hr3),by kernel_rfl,by kernel_rfl⟩) ax.nil))) ?_
  refine kt [2,8,9] [2,9,27,5620] [(2,.own 2 0),(8,.own 27 0),(9,.own 9 0)] [(2,26,qc9 b2),(9,26,qc9 b9),(27,46,aL 5620 r3.2),(5620,50,[rc5 r3.2.f_l])] ?_
  cases h
  exact hQ
 ·refine Wp.skip (kt [2,8,9] [2,9,27,5620] [(2,.own 2 0),(8,.own 27 0),(9,.own 9 0)] [(2,26,qc9 b2),(9,26,qc9 b9),(27,46,aL 5620 b27),(5620,50,[rc5 b27.f_l])] ?_)
  cases h
  exact hQ
def dL(n:Nat)(a0:Bs):Option (af×Int×Int) :=
 (kG n a0).bind fun r1 =>
 if(r1.2.2 != 0)=true then(some ((af.mk 0 [] [] []),r1.2.1,r1.2.2))
 else(if((List.length r1.1:Int)==0)=true then(some ((af.mk 0 [] [] []),0,0))
 else((bX n (ak.mk r1.1 0 0 0)).bind fun r2 =>
 (nI n (bif (r2.2.f_e==0) then(decide (r2.2.aC<(List.length r2.2.f_l:Int))) else false) (af.mk 0 [] [] []) r2.1 r2.2).bind fun o3 =>
 if(o3.f_e != 0)=true then(some ((af.mk 0 [] [] []),o3.mF,o3.f_e))
 else((jK n r2.1).bind fun r4 =>
 if(!r4)=true then(some ((af.mk 0 [] [] []),0,9))
 else(some (r2.1,0,0)))))
theorem nj(n:Nat)(a0:Bs)(r:af×Int×Int)(h:dL n a0=some r):bC Tryz.prog 9 [.str a0] (.tup [.agg (qc9 r.1),vi r.2.1,vi r.2.2]):=by
 unfold dL at h
 refine xo Tryz.f9 rfl fun F0 w0 _=>?_
 refine Wp.seq (rg [0,2] [2] [(0,.str a0),(2,.own 2 0)] [(2,26,[vi 0,.str [],.val (.slice none 0 0),.val (.slice none 0 0)])] (To.ai (Wp.seq ?_)))
 obtain⟨r1,hr1,h⟩:=aG h
 refine rb [] 1 ⟨[],[(1,12)],[.str a0],[],.tup [.row 1,vi r1.2.1,vi r1.2.2],[(1,50,[rc5 r1.1])]⟩ [2,5,6,7] [2,12] [(2,.own 2 0),(5,.row 12),(6,vi r1.2.1),(7,vi r1.2.2)] [(2,26,[vi 0,.str [],.val (.slice none 0 0),.val (.slice none 0 0)]),(12,50,[rc5 r1.1])] ((An n a0 _ hr1)) (To.ai (Wp.seq (Wp.seq (rg [2,5,6,7,17] [2,12] [(2,.own 2 0),(5,.row 12),(6,vi r1.2.1),(7,vi r1.2.2),(17,vb (r1.2.2 != 0))] [(2,26,[vi 0,.str [],.val (.slice none 0 0),.val (.slice none 0 0)]),(12,50,[rc5 r1.1])] (To.ai (cn h (fun h=>?_) (fun h=>?_)))))))
 ·refine Wp.seq (rg [2,3,4] [2] [(2,.own 2 0),(3,vi r1.2.1),(4,vi r1.2.2)] [(2,26,[vi 0,.str [],.val (.slice none 0 0),.val (.slice none 0 0)])] (To.ai (Wp.ret (To.aO (To.weak (K':=[(2,.own 2 0),(3,vi r1.2.1),(4,vi r1.2.2)]) (L':=[(2,26,[vi 0,.str [],ls [],tn8 []])]) (.cons (.refl _) (.cons (.refl _) (.cons (.refl _) .nil))) (.cons (.cons (.refl _) (.cons (.refl _) (.cons (.zero _ _) (.cons (.ig _ _ _) .nil)))) .nil) ?_)))))
  cases h
  exact To.done hΓ (by kernel_rfl)
 ·refine Wp.skip (To.ai (Wp.seq (Wp.seq (rg [2,5,23] [2,12] [(2,.own 2 0),(5,.row 12),(23,vb ((List.length r1.1:Int)==0))] [(2,26,[vi 0,.str [],.val (.slice none 0 0),.val (.slice none 0 0)]),(12,50,[rc5 r1.1])] (To.ai (cn h (fun h=>?_) (fun h=>?_)))))))
  ·refine Wp.seq (rg [2,3,4] [2] [(2,.own 2 0),(3,vi 0),(4,vi 0)] [(2,26,[vi 0,.str [],.val (.slice none 0 0),.val (.slice none 0 0)])] (To.ai (Wp.ret (To.aO (To.weak (K':=[(2,.own 2 0),(3,vi 0),(4,vi 0)]) (L':=[(2,26,[vi 0,.str [],ls [],tn8 []])]) (.cons (.refl _) (.cons (.refl _) (.cons (.refl _) .nil))) (.cons (.cons (.refl _) (.cons (.refl _) (.cons (.zero _ _) (.cons (.ig _ _ _) .nil)))) .nil) ?_)))))
   cases h
   exact To.done hΓ (by kernel_rfl)
  ·refine Wp.skip (To.ai (Wp.seq (rg [2,8] [2,12,27] [(2,.own 2 0),(8,.own 27 0)] [(2,26,[vi 0,.str [],.val (.slice none 0 0),.val (.slice none 0 0)]),(12,50,[rc5 r1.1]),(27,46,[.row 12,vi 0,vi 0,vi 0])] (To.ai (Wp.seq ?_)))))
   obtain⟨r2,hr2,h⟩:=aG h
   refine rb [] 1 ⟨[(1000000,27),(1010000,12)],[(200,12),(1000000,27)],[.own 1000000 0],[(1000000,46,[.row 1010000,vi 0,vi 0,vi 0]),(1010000,50,[rc5 r1.1])],.agg (qc9 r2.1),[(200,50,[rc5 r2.2.f_l]),(1000000,46,aL 200 r2.2)]⟩ [2,8,9] [2,9,12,27] [(2,.own 2 0),(8,.own 27 0),(9,.own 9 0)] [(2,26,[vi 0,.str [],.val (.slice none 0 0),.val (.slice none 0 0)]),(9,26,qc9 r2.1),(12,50,[rc5 r2.2.f_l]),(27,46,aL 12 r2.2)] ((qe n (ak.mk r1.1 0 0 0) _ hr2)) (To.ai (Wp.seq (Wp.seq (Wp.eQ hm hΓ [] [2,8,9,46] [2,9,12,27] (K':=[(2,.own 2 0),(8,.own 27 0),(9,.own 9 0),(46,vb (bif (r2.2.f_e==0) then(decide (r2.2.aC<(List.length r2.2.f_l:Int))) else false))]) (L':=[(2,26,[vi 0,.str [],.val (.slice none 0 0),.val (.slice none 0 0)]),(9,26,qc9 r2.1),(12,50,[rc5 r2.2.f_l]),(27,46,aL 12 r2.2)]) (ob:=[]) (by kernel_rfl) ax.nil (To.ai ?_)))))
   obtain⟨o3,ho3,h⟩:=aG h
   refine nw [2,8,9,46] [2,9,12,27] [(12,5620)] [2,8,9,46] [2,9,27,5620] [(2,.own 2 0),(8,.own 27 0),(9,.own 9 0),(46,vb (bif (r2.2.f_e==0) then(decide (r2.2.aC<(List.length r2.2.f_l:Int))) else false))] [(2,26,[vi 0,.str [],.val (.slice none 0 0),.val (.slice none 0 0)]),(9,26,qc9 r2.1),(27,46,aL 5620 r2.2),(5620,50,[rc5 r2.2.f_l])] (Wp.weak (K':=[(2,.own 2 0),(8,.own 27 0),(9,.own 9 0),(46,vb (bif (r2.2.f_e==0) then(decide (r2.2.aC<(List.length r2.2.f_l:Int))) else false))]) (L':=[(2,26,[vi 0,.str [],ls [],tn8 []]),(9,26,qc9 r2.1),(27,46,aL 5620 r2.2),(5620,50,[rc5 r2.2.f_l])]) (.cons (.refl _) (.cons (.refl _) (.cons (.refl _) (.cons (.refl _) .nil)))) (.cons (.cons (.refl _) (.cons (.refl _) (.cons (.zero _ _) (.cons (.ig _ _ _) .nil)))) (.cons (.cons (.refl _) (.cons (.refl _) (.cons (.refl _) (.cons (.refl _) .nil)))) (.cons (.cons (.refl _) (.cons (.refl _) (.cons (.refl _) (.cons (.refl _) .nil)))) (.cons (.cons (.refl _) .nil) .nil)))) (yS n (bif (r2.2.f_e==0) then(decide (r2.2.aC<(List.length r2.2.f_l:Int))) else false) zx7 r2.1 r2.2 o3 ho3 (To.ai (Wp.seq (Wp.block (Wp.seq (rg [2,8,9,60] [2,9,27,5620] [(2,.own 2 0),(8,.own 27 0),(9,.own 9 0),(60,vb (o3.f_e != 0))] [(2,26,[vi 0,.str [],ls [],tn8 []]),(9,26,qc9 r2.1),(27,46,aL 5620 o3),(5620,50,[rc5 o3.f_l])] (To.ai (cn h (fun h=>?_) (fun h=>?_))))))))))
   ·refine Wp.seq (Wp.eQ hm hΓ [] [2,3,4] [2] (K':=[(2,.own 2 0),(3,vi o3.mF),(4,vi o3.f_e)]) (L':=[(2,26,[vi 0,.str [],.val (.slice none 0 0),.val (.slice none 0 0)])]) (ob:=[]) (by kernel_rfl) ax.nil (To.ai (Wp.ret (To.aX (To.aO (kt [2,3,4] [2] [(2,.own 2 0),(3,vi o3.mF),(4,vi o3.f_e)] [(2,26,[vi 0,.str [],.val (.slice none 0 0),.val (.slice none 0 0)])] (To.weak (K':=[(2,.own 2 0),(3,vi o3.mF),(4,vi o3.f_e)]) (L':=[(2,26,[vi 0,.str [],ls [],tn8 []])]) (.cons (.refl _) (.cons (.refl _) (.cons (.refl _) .nil))) (.cons (.cons (.refl _) (.cons (.refl _) (.cons (.zero _ _) (.cons (.ig _ _ _) .nil)))) .nil) ?_)))))))
    cases h
    exact To.done hΓ (by kernel_rfl)
   ·refine Wp.seq ?_
    obtain⟨r4,hr4,h⟩:=aG h
    refine rc [] 1 [2,9,75] [2,9] [(2,.own 2 0),(9,.own 9 0),(75,vb (!r4))] [(2,26,[vi 0,.str [],ls [],tn8 []]),(9,26,qc9 r2.1)] (wR n r2.1 _ hr4) (To.ai (cn h (fun h=>?_) (fun h=>?_)))
    ·refine Wp.seq (rg [2,3,4] [2] [(2,.own 2 0),(3,vi 0),(4,vi 9)] [(2,26,[vi 0,.str [],.val (.slice none 0 0),.val (.slice none 0 0)])] (To.ai (Wp.ret (To.aX (To.aO (To.weak (K':=[(2,.own 2 0),(3,vi 0),(4,vi 9)]) (L':=[(2,26,[vi 0,.str [],ls [],tn8 []])]) (.cons (.refl _) (.cons (.refl _) (.cons (.refl _) .nil))) (.cons (.cons (.refl _) (.cons (.refl _) (.cons (.zero _ _) (.cons (.ig _ _ _) .nil)))) .nil) ?_))))))
     cases h
     exact To.done hΓ (by kernel_rfl)
    ·refine Wp.skip (To.br (To.ai (Wp.seq (rg [2,3,4] [2] [(2,.own 2 0),(3,vi 0),(4,vi 0)] [(2,26,qc9 r2.1)] (To.ai (Wp.ret ?_))))))
     cases h
     exact To.done hΓ (by kernel_rfl)
def ko(n:Nat)(v0:Bs)(v3:List (UInt8))(v13:Int)(v14:Int):Option ((List (UInt8))) :=
 if(decide (0<=v14/\v14<(List.length v0:Int)))=true then(aP ((bif ((((v0)[Int.toNat v14]?.getD 0).toNat:Int)==34) then true else((((v0)[Int.toNat v14]?.getD 0).toNat:Int)==92)):Bool) fun x1 =>
 if x1=true then(if(decide ((List.length v3+List.length ([92,((v0)[Int.toNat v14]?.getD 0)]:List (UInt8)))*(1+1)<=limit))=true then(some (v3++([92,((v0)[Int.toNat v14]?.getD 0)]:List (UInt8)))) else none)
 else(if((((v0)[Int.toNat v14]?.getD 0).toNat:Int)==10)=true then(if(decide ((List.length v3+List.length ([92,110]:List (UInt8)))*(1+1)<=limit))=true then(some (v3++([92,110]:List (UInt8)))) else none)
 else(if((((v0)[Int.toNat v14]?.getD 0).toNat:Int)==9)=true then(if(decide ((List.length v3+List.length ([92,116]:List (UInt8)))*(1+1)<=limit))=true then(some (v3++([92,116]:List (UInt8)))) else none)
 else(if(!(fK (((v0)[Int.toNat v14]?.getD 0).toNat:Int)))=true then(if(decide (0<=(4:Int)))=true then(if(decide (0<=(Int.fdiv (((v0)[Int.toNat v14]?.getD 0).toNat:Int) (2 ^ (min (Int.toNat 4) (IntKind.bits .u8))))/\(Int.fdiv (((v0)[Int.toNat v14]?.getD 0).toNat:Int) (2 ^ (min (Int.toNat 4) (IntKind.bits .u8))))<(List.length ([48,49,50,51,52,53,54,55,56,57,97,98,99,100,101,102]:Bs):Int)))=true then(if(decide (0<=(IntKind.wrap .u8 ((BitVec.ofInt (IntKind.bits .u8) (((v0)[Int.toNat v14]?.getD 0).toNat:Int) &&& BitVec.ofInt (IntKind.bits .u8) 15).toNat))/\(IntKind.wrap .u8 ((BitVec.ofInt (IntKind.bits .u8) (((v0)[Int.toNat v14]?.getD 0).toNat:Int) &&& BitVec.ofInt (IntKind.bits .u8) 15).toNat))<(List.length ([48,49,50,51,52,53,54,55,56,57,97,98,99,100,101,102]:Bs):Int)))=true then(if(decide ((List.length v3+List.length ([92,120,((([48,49,50,51,52,53,54,55,56,57,97,98,99,100,101,102]:Bs))[Int.toNat (Int.fdiv (((v0)[Int.toNat v14]?.getD 0).toNat:Int) (2 ^ (min (Int.toNat 4) (IntKind.bits .u8))))]?.getD 0),((([48,49,50,51,52,53,54,55,56,57,97,98,99,100,101,102]:Bs))[Int.toNat (IntKind.wrap .u8 ((BitVec.ofInt (IntKind.bits .u8) (((v0)[Int.toNat v14]?.getD 0).toNat:Int) &&& BitVec.ofInt (IntKind.bits .u8) 15).toNat))]?.getD 0)]:List (UInt8)))*(1+1)<=limit))=true then(aP ((v3++([92,120,((([48,49,50,51,52,53,54,55,56,57,97,98,99,100,101,102]:Bs))[Int.toNat (Int.fdiv (((v0)[Int.toNat v14]?.getD 0).toNat:Int) (2 ^ (min (Int.toNat 4) (IntKind.bits .u8))))]?.getD 0),((([48,49,50,51,52,53,54,55,56,57,97,98,99,100,101,102]:Bs))[Int.toNat (IntKind.wrap .u8 ((BitVec.ofInt (IntKind.bits .u8) (((v0)[Int.toNat v14]?.getD 0).toNat:Int) &&& BitVec.ofInt (IntKind.bits .u8) 15).toNat))]?.getD 0)]:List (UInt8))):List (UInt8)) fun x5 =>
 some x5) else none) else none) else none) else none)
 else(if(decide ((List.length v3+List.length ([((v0)[Int.toNat v14]?.getD 0)]:List (UInt8)))*(1+1)<=limit))=true then(some (v3++([((v0)[Int.toNat v14]?.getD 0)]:List (UInt8)))) else none))))) else none
abbrev zk(x0:Bs)(x1:Int):=([92,((x0)[Int.toNat x1]?.getD 0)]:List (UInt8))
abbrev E7(x0:List (UInt8)):=(x0++([92,110]:List (UInt8)))
abbrev E6(x0:List (UInt8)):=(x0++([92,116]:List (UInt8)))
abbrev zo(x0:Bs)(x1:Int):=([92,120,((([48,49,50,51,52,53,54,55,56,57,97,98,99,100,101,102]:Bs))[Int.toNat (Int.fdiv (ex1 x0 x1) (2 ^ (min (Int.toNat 4) (IntKind.bits .u8))))]?.getD 0),((([48,49,50,51,52,53,54,55,56,57,97,98,99,100,101,102]:Bs))[Int.toNat (IntKind.wrap .u8 ((BitVec.ofInt (IntKind.bits .u8) (ex1 x0 x1) &&& BitVec.ofInt (IntKind.bits .u8) 15).toNat))]?.getD 0)]:List (UInt8))
abbrev N4(x0:Bs)(x1:Int):=([92,120,((([48,49,50,51,52,53,54,55,56,57,97,98,99,100,101,102]:Bs))[Int.toNat (Int.fdiv (ex1 x0 x1) (2 ^ (min (Int.toNat 4) (IntKind.bits .u8))))]?.getD 0),((([48,49,50,51,52,53,54,55,56,57,97,98,99,100,101,102]:Bs))[Int.toNat (IntKind.wrap .u8 ((BitVec.ofInt (IntKind.bits .u8) (ex1 x0 x1) &&& BitVec.ofInt (IntKind.bits .u8) 15).toNat))]?.getD 0)])
abbrev J6(x0:Bs)(x1:Int):=(IntKind.wrap .u8 ((BitVec.ofInt (IntKind.bits .u8) (ex1 x0 x1) &&& BitVec.ofInt (IntKind.bits .u8) 15).toNat))
abbrev JA(x0:Bs)(x1:Int):=(Int.fdiv (ex1 x0 x1) (2 ^ (min (Int.toNat 4) (IntKind.bits .u8))))
theorem ya(n:Nat)(v0:Bs)(v3:List (UInt8))(v13:Int)(v14:Int)(o:(List (UInt8)))(h:ko n v0 v3 v13 v14=some o)(hQ:To 65 F0 w0 [(0,.str v0),(3,.row 1003),(13,vi v13),(14,vi v14)] [(1003,5,[rc1 o])] .normal Q):Wp Tryz.prog 65 F0 w0 [(0,.str v0),(3,.row 1003),(13,vi v13),(14,vi v14)] [(1003,5,[rc1 v3])] (cA (cB (cB (cI (cI (cB (cA (cB (cB (cF Tryz.f42)))))))))) Q:=by
 unfold ko at h
 refine Wp.block (Wp.seq (rg [0,3,4,13,14] [1003] [(0,.str v0),(3,.row 1003),(4,vi v14),(13,vi v13),(14,vi v14)] [(1003,5,[rc1 v3])] (To.ai (Wp.seq ?_))))
 obtain⟨hc11,h⟩:=aK h
 refine r0 [0,3,5,13,14] [1003] [(0,.str v0),(3,.row 1003),(5,.val (.int .u8 (ex1 v0 v14))),(13,vi v13),(14,vi v14)] [(1003,5,[rc1 v3])] (ax.cons hc11 ax.nil) (To.ai (Wp.block (Wp.seq ?_)))
 obtain⟨x1,hx1,h⟩:=bV h
 refine rg [0,3,5,13,14,24] [1003] [(0,.str v0),(3,.row 1003),(5,.val (.int .u8 (ex1 v0 v14))),(13,vi v13),(14,vi v14),(24,vb (bif ((ex1 v0 v14)==34) then true else((ex1 v0 v14)==92)))] [(1003,5,[rc1 v3])] (To.eq (K':=[(0,.str v0),(3,.row 1003),(5,.val (.int .u8 (ex1 v0 v14))),(13,vi v13),(14,vi v14),(24,vb x1)]) (L':=[(1003,5,[rc1 v3])]) (by cases hx1;rfl) (by cases hx1;rfl) (To.ai (cn h (fun h=>?_) (fun h=>?_))))
 ·obtain⟨hc2,h⟩:=aK h
  refine rr [] [(2,rs2 ([92,((v0)[Int.toNat v14]?.getD 0)])),(3,rs2 (v3++(zk v0 v14)))] [] [0,3,13,14] [34] [(0,.str v0),(3,.row 34),(13,vi v13),(14,vi v14)] [(34,5,[rc1 (v3++(zk v0 v14))])] [(fV 1 [.val (.int .u8 92),.val (.int .u8 (ex1 v0 v14))] 2 (rs2 ([92,((v0)[Int.toNat v14]?.getD 0)]))/\aV (rs2 ([92,((v0)[Int.toNat v14]?.getD 0)]))),_,(i7 0 e8 v3 (List.flatMap e8 (zk v0 v14)) (List.length (zk v0 v14)) (rs2 (v3++(zk v0 v14)))/\aV (rs2 (v3++(zk v0 v14))))] (ax.cons (jY (lu.cells (ns:=[92,(ex1 v0 v14)]) (.cons rfl (.cons rfl .nil))) rfl rfl (iH _)) (ax.cons hc2 (ax.cons (ja rfl rfl (iH _)) ax.nil))) (To.br (To.br (nt [0,3,13,14] [34] [(34,1003)] [0,3,13,14] [1003] [(0,.str v0),(3,.row 1003),(13,vi v13),(14,vi v14)] [(1003,5,[rc1 (v3++(zk v0 v14))])] ?_)))
  cases h
  exact hQ
 ·refine Wp.seq (rg [0,3,5,13,14,35] [1003] [(0,.str v0),(3,.row 1003),(5,.val (.int .u8 (ex1 v0 v14))),(13,vi v13),(14,vi v14),(35,vb ((ex1 v0 v14)==10))] [(1003,5,[rc1 v3])] (To.ai (cn h (fun h=>?_) (fun h=>?_))))
  ·obtain⟨hc3,h⟩:=aK h
   refine rr [] [(1,rs2 [92,110]),(2,rs2 (E7 v3))] [] [0,3,13,14] [40] [(0,.str v0),(3,.row 40),(13,vi v13),(14,vi v14)] [(40,5,[rc1 (E7 v3)])] [(fV 1 [.val (.int .u8 92),.val (.int .u8 110)] 2 (rs2 [92,110])/\aV (rs2 [92,110])),_,(i7 0 e8 v3 (List.flatMap e8 ([92,110]:List (UInt8))) (List.length ([92,110]:List (UInt8))) (rs2 (E7 v3))/\aV (rs2 (E7 v3)))] (ax.cons (jY (lu.cells (ns:=[92,110]) (.cons rfl (.cons rfl .nil))) rfl rfl (iH _)) (ax.cons hc3 (ax.cons (ja rfl rfl (iH _)) ax.nil))) (To.br (To.br (nt [0,3,13,14] [40] [(40,1003)] [0,3,13,14] [1003] [(0,.str v0),(3,.row 1003),(13,vi v13),(14,vi v14)] [(1003,5,[rc1 (E7 v3)])] ?_)))
   cases h
   exact hQ
  ·refine Wp.seq (rg [0,3,5,13,14,41] [1003] [(0,.str v0),(3,.row 1003),(5,.val (.int .u8 (ex1 v0 v14))),(13,vi v13),(14,vi v14),(41,vb ((ex1 v0 v14)==9))] [(1003,5,[rc1 v3])] (To.ai (cn h (fun h=>?_) (fun h=>?_))))
   ·obtain⟨hc4,h⟩:=aK h
    refine rr [] [(1,rs2 [92,116]),(2,rs2 (E6 v3))] [] [0,3,13,14] [46] [(0,.str v0),(3,.row 46),(13,vi v13),(14,vi v14)] [(46,5,[rc1 (E6 v3)])] [(fV 1 [.val (.int .u8 92),.val (.int .u8 116)] 2 (rs2 [92,116])/\aV (rs2 [92,116])),_,(i7 0 e8 v3 (List.flatMap e8 ([92,116]:List (UInt8))) (List.length ([92,116]:List (UInt8))) (rs2 (E6 v3))/\aV (rs2 (E6 v3)))] (ax.cons (jY (lu.cells (ns:=[92,116]) (.cons rfl (.cons rfl .nil))) rfl rfl (iH _)) (ax.cons hc4 (ax.cons (ja rfl rfl (iH _)) ax.nil))) (To.br (To.br (nt [0,3,13,14] [46] [(46,1003)] [0,3,13,14] [1003] [(0,.str v0),(3,.row 1003),(13,vi v13),(14,vi v14)] [(1003,5,[rc1 (E6 v3)])] ?_)))
    cases h
    exact hQ
   ·refine Wp.seq (rc [] 1 [0,3,5,13,14,47] [1003] [(0,.str v0),(3,.row 1003),(5,.val (.int .u8 (ex1 v0 v14))),(13,vi v13),(14,vi v14),(47,vb (!(fK (ex1 v0 v14))))] [(1003,5,[rc1 v3])] (uV (ex1 v0 v14) _ rfl) (To.ai (cn h (fun h=>?_) (fun h=>?_))))
    ·obtain⟨hc6,h⟩:=aK h
     obtain⟨hc7,h⟩:=aK h
     obtain⟨hc8,h⟩:=aK h
     obtain⟨hc9,h⟩:=aK h
     obtain⟨x5,hx5,h⟩:=bV h
     refine Wp.eQ hm hΓ [(7,rs2 (N4 v0 v14)),(8,.row 59),(1008,rs2 (v3++(zo v0 v14)))] [0,3,13,14] [59] (K':=[(0,.str v0),(3,.row 59),(13,vi v13),(14,vi v14)]) (L':=[(59,5,[rc1 (v3++(zo v0 v14))])]) (ob:=[(decide (0<=(4:Int)))=true,(decide (0<=(JA v0 v14)/\(JA v0 v14)<(List.length ([48,49,50,51,52,53,54,55,56,57,97,98,99,100,101,102]:Bs):Int)))=true,(decide (0<=(J6 v0 v14)/\(J6 v0 v14)<(List.length ([48,49,50,51,52,53,54,55,56,57,97,98,99,100,101,102]:Bs):Int)))=true,(true=true->fV 1 [.val (.int .u8 92),.val (.int .u8 120),.val (.int .u8 (((([48,49,50,51,52,53,54,55,56,57,97,98,99,100,101,102]:Bs))[Int.toNat (JA v0 v14)]?.getD 0).toNat:Int)),.val (.int .u8 (((([48,49,50,51,52,53,54,55,56,57,97,98,99,100,101,102]:Bs))[Int.toNat (J6 v0 v14)]?.getD 0).toNat:Int))] 4 (rs2 (N4 v0 v14))/\aV (rs2 (N4 v0 v14))),(decide ((List.length v3+List.length (zo v0 v14))*(1+1)<=limit))=true,(i7 0 e8 v3 (List.flatMap e8 (zo v0 v14)) (List.length (zo v0 v14)) (rs2 (v3++(zo v0 v14)))/\aV (rs2 (v3++(zo v0 v14))))]) (by kernel_rfl) (ax.cons hc6 (ax.cons hc7 (ax.cons hc8 (ax.cons (fun _=>jY (lu.cells (ns:=[92,120,(((([48,49,50,51,52,53,54,55,56,57,97,98,99,100,101,102]:Bs))[Int.toNat (JA v0 v14)]?.getD 0).toNat:Int),(((([48,49,50,51,52,53,54,55,56,57,97,98,99,100,101,102]:Bs))[Int.toNat (J6 v0 v14)]?.getD 0).toNat:Int)]) (.cons rfl (.cons rfl (.cons rfl (.cons rfl .nil))))) rfl rfl (iH _)) (ax.cons hc9 (ax.cons (ja rfl rfl (iH _)) ax.nil)))))) (To.eq (K':=[(0,.str v0),(3,.row 59),(13,vi v13),(14,vi v14)]) (L':=[(59,5,[rc1 x5])]) (by cases hx5;rfl) (by cases hx5;rfl) (To.br (To.br (nt [0,3,13,14] [59] [(59,1003)] [0,3,13,14] [1003] [(0,.str v0),(3,.row 1003),(13,vi v13),(14,vi v14)] [(1003,5,[rc1 x5])] ?_))))
     cases h
     exact hQ
    ·obtain⟨hc10,h⟩:=aK h
     refine rr [] [(2,rs2 (ex7 v0 v14)),(3,rs2 (v3++(ex2 v0 v14)))] [] [0,3,13,14] [23] [(0,.str v0),(3,.row 23),(13,vi v13),(14,vi v14)] [(23,5,[rc1 (v3++(ex2 v0 v14))])] [(Ni v0 v14),_,(NA v3 v0 v14)] (ax.cons (jY (lu.cells (ns:=[(ex1 v0 v14)]) (.cons rfl .nil)) rfl rfl (iH _)) (ax.cons hc10 (ax.cons (ja rfl rfl (iH _)) ax.nil))) (To.br (To.br (nt [0,3,13,14] [23] [(23,1003)] [0,3,13,14] [1003] [(0,.str v0),(3,.row 1003),(13,vi v13),(14,vi v14)] [(1003,5,[rc1 (v3++(ex2 v0 v14))])] ?_)))
     cases h
     exact hQ
def jr(n:Nat)(v0:Bs)(v13:Int):Nat->(List (UInt8))->Int->Option ((List (UInt8)))
 |0,_,_=>none
 |k+1,v3,v14=>if(decide (v14<v13))=true then((ko n v0 v3 v13 v14).bind fun o1 =>
 jr n v0 v13 k o1 (IntKind.wrap .i64 (v14+1)))
 else some v3
theorem xn(n:Nat)(v0:Bs)(v13:Int)(k:Nat):∀(v3:List (UInt8))(v14:Int)(o:(List (UInt8))),jr n v0 v13 k v3 v14=some o->To 65 F0 w0 [(3,.row 1003)] [(1003,5,[rc1 o])] (.exit 0) Q->WL Tryz.prog 65 F0 w0 [(0,.str v0),(3,.row 1003),(13,vi v13),(14,vi v14)] [(1003,5,[rc1 v3])] (cI (cI (cB (cA (cB (cB (cF Tryz.f42))))))) Q:=by
 induction k with
 |zero=>intro v3 v14 o h;cases h
 |succ k ih =>
  intro v3 v14 o h hQ
  rw[jr] at h
  refine WL.round (Wp.seq (rg [0,3,13,14,15] [1003] [(0,.str v0),(3,.row 1003),(13,vi v13),(14,vi v14),(15,vb (decide (v14<v13)))] [(1003,5,[rc1 v3])] (To.ai (Wp.seq (cn h (fun h=>?_) (fun h=>?_))))))
  ·refine Wp.skip (To.ai (Wp.seq ?_))
   obtain⟨o1,ho1,h⟩:=aG h
   refine kw [0,3,13,14] [1003] [(0,.str v0),(3,.row 1003),(13,vi v13),(14,vi v14)] [(1003,5,[rc1 v3])] (ya n v0 v3 v13 v14 o1 ho1 (To.ai (rg [0,3,13,14] [1003] [(0,.str v0),(3,.row 1003),(13,vi v13),(14,vi (IntKind.wrap .i64 (v14+1)))] [(1003,5,[rc1 o1])] (kt [0,3,13,14] [1003] [(0,.str v0),(3,.row 1003),(13,vi v13),(14,vi (IntKind.wrap .i64 (v14+1)))] [(1003,5,[rc1 o1])] (To.again ?_)))))
   exact ih o1 (IntKind.wrap .i64 (v14+1)) _ h hQ
  ·refine Wp.exit (To.dZ (To.dZ (kt [3] [1003] [(3,.row 1003)] [(1003,5,[rc1 v3])] ?_)))
   cases h
   exact hQ
def jq(n:Nat)(a0:Bs):Option (Bs) :=
 if(decide (0<=(0:Int)/\(0:Int)<=(IntKind.wrap .i64 ((List.length a0:Int)+2))))=true then(if(decide ((IntKind.wrap .i64 ((List.length a0:Int)+2))*((1+1:Nat):Int)<=(limit:Int)))=true then(if(decide ((List.length ([]:List (UInt8))+List.length ([34]:List (UInt8)))*(1+1)<=limit))=true then((jr n a0 (List.length a0:Int) n (([]:List (UInt8))++([34]:List (UInt8))) 0).bind fun o1 =>
 if(decide ((List.length o1+List.length ([34]:List (UInt8)))*(1+1)<=limit))=true then(some (o1++([34]:List (UInt8)))) else none) else none) else none) else none
theorem mg(n:Nat)(a0:Bs)(r:Bs)(h:jq n a0=some r):bC Tryz.prog 42 [.str a0] (.str r):=by
 unfold jq at h
 refine xo Tryz.f42 rfl fun F0 w0 _=>?_
 refine Wp.seq (rg [0] [] [(0,.str a0)] [] (To.ai (Wp.seq ?_)))
 obtain⟨hc3,h⟩:=aK h
 obtain⟨hc4,h⟩:=aK h
 obtain⟨hc5,h⟩:=aK h
 refine rr [] [(3,rs2 []),(4,rs2 [34]),(5,rs2 (([]:List (UInt8))++([34]:List (UInt8))))] [] [0,3] [11] [(0,.str a0),(3,.row 11)] [(11,5,[rc1 (([]:List (UInt8))++([34]:List (UInt8)))])] [_,_,(Bh [.val (.int .u8 0)] (Int.toNat 0) (rs2 [])/\aV (rs2 [])),(fV 1 [.val (.int .u8 34)] 1 (rs2 [34])/\aV (rs2 [34])),_,(i7 0 e8 ([]:List (UInt8)) (List.flatMap e8 ([34]:List (UInt8))) (List.length ([34]:List (UInt8))) (rs2 (([]:List (UInt8))++([34]:List (UInt8))))/\aV (rs2 (([]:List (UInt8))++([34]:List (UInt8)))))] (ax.cons hc3 (ax.cons hc4 (ax.cons (QB (by kernel_rfl) (iH _)) (ax.cons (jY (lu.cells (ns:=[34]) (.cons rfl .nil)) rfl rfl (iH _)) (ax.cons hc5 (ax.cons (ja rfl rfl (iH _)) ax.nil)))))) (To.ai (Wp.seq (Wp.seq (rg [0,3,13,14] [11] [(0,.str a0),(3,.row 11),(13,vi (List.length a0:Int)),(14,vi 0)] [(11,5,[rc1 (([]:List (UInt8))++([34]:List (UInt8)))])] (To.ai (Wp.block ?_))))))
 obtain⟨o1,ho1,h⟩:=aG h
 refine nw [0,3,13,14] [11] [(11,1003)] [0,3,13,14] [1003] [(0,.str a0),(3,.row 1003),(13,vi (List.length a0:Int)),(14,vi 0)] [(1003,5,[rc1 (([]:List (UInt8))++([34]:List (UInt8)))])] (Wp.lD (xn n a0 (List.length a0:Int) n (([]:List (UInt8))++([34]:List (UInt8))) 0 o1 ho1 (To.jH (To.ai (Wp.seq ?_)))))
 obtain⟨hc2,h⟩:=aK h
 refine rr [] [(1,rs2 [34]),(2,rs2 (o1++([34]:List (UInt8)))),(3,.str (o1++([34]:List (UInt8))))] [] [2] [] [(2,.str (o1++([34]:List (UInt8))))] [] [(fV 1 [.val (.int .u8 34)] 1 (rs2 [34])/\aV (rs2 [34])),_,(i7 0 e8 o1 (List.flatMap e8 ([34]:List (UInt8))) (List.length ([34]:List (UInt8))) (rs2 (o1++([34]:List (UInt8))))/\aV (rs2 (o1++([34]:List (UInt8))))),(true=true->Bd (List.flatMap e8 (o1++([34]:List (UInt8)))) (.str (o1++([34]:List (UInt8)))))] (ax.cons (jY (lu.cells (ns:=[34]) (.cons rfl .nil)) rfl rfl (iH _)) (ax.cons hc2 (ax.cons (ja rfl rfl (iH _)) (ax.cons (fun _=>OB (JS _)) ax.nil)))) (To.ai (Wp.ret ?_))
 cases h
 exact To.done hΓ (by kernel_rfl)
def qN(n:Nat)(a0:Bs)(a1:Bool):Option (Bs) :=
 ((if(a1==true)=true then lg n a0 else some false)).bind fun r1 =>
 ((if(((!a1)==true)&&((bif a1 then r1 else false)==false))=true then iz n a0 else some false)).bind fun r2 =>
 if(bif (bif a1 then r1 else false) then true else(bif (!a1) then r2 else false))=true then some a0
 else((jq n a0).bind fun r3 =>
 some r3)
theorem BU(n:Nat)(a0:Bs)(a1:Bool)(r:Bs)(h:qN n a0 a1=some r):bC Tryz.prog 51 [.str a0,vb a1] (.str r):=by
 unfold qN at h
 refine xo Tryz.f51 rfl fun F0 w0 _=>?_
 refine Wp.seq (rg [0,1] [] [(0,.str a0),(1,vb a1)] [] (To.ai (Wp.seq (Wp.seq ?_))))
 obtain⟨r1,hr1,h⟩:=aG h
 obtain⟨r2,hr2,h⟩:=aG h
 refine rr [] [(3,vb r1),(10,vb r2)] [] [0,17] [] [(0,.str a0),(17,vb (bif (bif a1 then r1 else false) then true else(bif (!a1) then r2 else false)))] [] [((a1==true)=true->CX Tryz.prog 83 [.str a0] (vb r1)),((((!a1)==true)&&((bif a1 then r1 else false)==false))=true->CX Tryz.prog 33 [.str a0] (vb r2))] (ax.cons (fun hg=>cx (tK n a0 _ (jC hg hr1))) (ax.cons (fun hg=>cx (np n a0 _ (jC hg hr2))) ax.nil)) (To.ai (cn h (fun h=>?_) (fun h=>?_)))
 ·refine Wp.seq (rg [4] [] [(4,.str a0)] [] (To.ai (Wp.ret (To.aO ?_))))
  cases h
  exact To.done hΓ (by kernel_rfl)
 ·refine Wp.skip (To.ai (Wp.seq ?_))
  obtain⟨r3,hr3,h⟩:=aG h
  refine rc [] 1 [4] [] [(4,.str r3)] [] (mg n a0 _ hr3) (To.ai (Wp.ret ?_))
  cases h
  exact To.done hΓ (by kernel_rfl)
def lT(n:Nat)(a0:Bs):Option (Bs) :=
 if(decide (List.length a0<4294967281))=true then(if(Lib.containsAny a0 [34,39])=true then((jq n a0).bind fun r2 =>
 some r2)
 else((qN n a0 false).bind fun r3 =>
 some r3)) else none
theorem vo(n:Nat)(a0:Bs)(r:Bs)(h:lT n a0=some r):bC Tryz.prog 21 [.str a0] (.str r):=by
 unfold lT at h
 refine xo Tryz.f21 rfl fun F0 w0 _=>?_
 refine Wp.seq (rg [0] [] [(0,.str a0)] [] (To.ai (Wp.seq (Wp.seq ?_))))
 obtain⟨u1,h⟩:=aK h
 refine rr [] [(1,vb (Lib.containsAny a0 [34,39]))] [] [0,4] [] [(0,.str a0),(4,vb (Lib.containsAny a0 [34,39]))] [] [(true=true->CX Tryz.prog 50 [.str a0,.str [34,39]] (vb (Lib.containsAny a0 [34,39])))] (ax.cons (fun _=>cx (Sh.OU u1)) ax.nil) (To.ai (cn h (fun h=>?_) (fun h=>?_)))
 ·refine Wp.seq ?_
  obtain⟨r2,hr2,h⟩:=aG h
  refine rc [] 1 [2] [] [(2,.str r2)] [] (mg n a0 _ hr2) (To.ai (Wp.ret (To.aO ?_)))
  cases h
  exact To.done hΓ (by kernel_rfl)
 ·refine Wp.skip (To.ai (Wp.seq ?_))
  obtain⟨r3,hr3,h⟩:=aG h
  refine rc [] 1 [2] [] [(2,.str r3)] [] (BU n a0 false _ hr3) (To.ai (Wp.ret ?_))
  cases h
  exact To.done hΓ (by kernel_rfl)
def nh(n:Nat)(a0:af):Option (Bs×Bool) :=
 if(a0.aF==0)=true then(some (rG,true))
 else(if(a0.aF==1)=true then((lT n a0.au).bind fun r1 =>
 some (r1,true))
 else(if(decide ((List.length a0.aj:Int)>0))=true then(some ([],false))
 else(if(a0.aF==2)=true then(some ([91,93],true))
 else(some ([123,125],true)))))
theorem wS(n:Nat)(a0:af)(r:Bs×Bool)(h:nh n a0=some r):bC Tryz.prog 79 [.agg (qc9 a0)] (.tup [.str r.1,vb r.2]):=by
 unfold nh at h
 refine xo Tryz.f79 rfl fun F0 w0 _=>?_
 refine Wp.seq (rg [1] [1] [(1,.own 1 0)] [(1,26,qc9 a0)] (To.ai (Wp.seq (Wp.block (Wp.seq (rg [1,4] [1] [(1,.own 1 0),(4,vb (a0.aF==0))] [(1,26,qc9 a0)] (To.ai (cn h (fun h=>?_) (fun h=>?_)))))))))
 ·refine Wp.seq (rg [2,3] [] [(2,.str rG),(3,vb true)] [] (To.ai (Wp.ret (To.aX (To.aO ?_)))))
  cases h
  exact To.done hΓ (by kernel_rfl)
 ·refine Wp.seq (rg [1,8] [1] [(1,.own 1 0),(8,vb (a0.aF==1))] [(1,26,qc9 a0)] (To.ai (cn h (fun h=>?_) (fun h=>?_))))
  ·refine Wp.seq ?_
   obtain⟨r1,hr1,h⟩:=aG h
   refine rc [] 2 [2,3] [] [(2,.str r1),(3,vb true)] [] (vo n a0.au _ hr1) (To.ai (Wp.ret (To.aX (To.aO ?_))))
   cases h
   exact To.done hΓ (by kernel_rfl)
  ·refine Wp.seq (rg [1,15] [1] [(1,.own 1 0),(15,vb (decide ((List.length a0.aj:Int)>0)))] [(1,26,qc9 a0)] (To.ai (cn h (fun h=>?_) (fun h=>?_))))
   ·refine Wp.seq (rg [2,3] [] [(2,.str []),(3,vb false)] [] (To.ai (Wp.ret (To.aX (To.aO ?_)))))
    cases h
    exact To.done hΓ (by kernel_rfl)
   ·refine Wp.seq (rg [20] [] [(20,vb (a0.aF==2))] [] (To.ai (cn h (fun h=>?_) (fun h=>?_))))
    ·refine Wp.seq (rg [2,3] [] [(2,.str [91,93]),(3,vb true)] [] (To.ai (Wp.ret (To.aX (To.aO ?_)))))
     cases h
     exact To.done hΓ (by kernel_rfl)
    ·refine Wp.skip (To.br (To.ai (Wp.seq (rg [2,3] [] [(2,.str [123,125]),(3,vb true)] [] (To.ai (Wp.ret ?_))))))
     cases h
     exact To.done hΓ (by kernel_rfl)
def sO(n:Nat)(a0:Bs):Option (Bs) :=
 if(a0==[60,60])=true then((jq n a0).bind fun r1 =>
 some r1)
 else((lT n a0).bind fun r2 =>
 some r2)
theorem G0(n:Nat)(a0:Bs)(r:Bs)(h:sO n a0=some r):bC Tryz.prog 80 [.str a0] (.str r):=by
 unfold sO at h
 refine xo Tryz.f80 rfl fun F0 w0 _=>?_
 refine Wp.seq (rg [0] [] [(0,.str a0)] [] (To.ai (Wp.seq (Wp.seq (rg [0,4] [] [(0,.str a0),(4,vb (a0==[60,60]))] [] (To.ai (cn h (fun h=>?_) (fun h=>?_))))))))
 ·refine Wp.seq ?_
  obtain⟨r1,hr1,h⟩:=aG h
  refine rc [] 1 [2] [] [(2,.str r1)] [] (mg n a0 _ hr1) (To.ai (Wp.ret (To.aO ?_)))
  cases h
  exact To.done hΓ (by kernel_rfl)
 ·refine Wp.skip (To.ai (Wp.seq ?_))
  obtain⟨r2,hr2,h⟩:=aG h
  refine rc [] 1 [2] [] [(2,.str r2)] [] (vo n a0 _ hr2) (To.ai (Wp.ret ?_))
  cases h
  exact To.done hΓ (by kernel_rfl)
end Go.Proofs.YtefojkdckfidcaaGreatDoor.M
