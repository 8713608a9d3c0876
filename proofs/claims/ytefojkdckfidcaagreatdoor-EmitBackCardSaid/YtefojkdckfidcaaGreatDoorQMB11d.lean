import Derived.Test.YtefojkdckfidcaaGreatDoorQMB11c
set_option linter.all false
namespace Go.Proofs.YtefojkdckfidcaaGreatDoor.M
open Go.RowKit Go.Proofs.YtefojkdckfidcaaGreatDoor.RX
set_option maxRecDepth 100000
variable {F0:Fz} {w0:Pt Tryz.prog} {Q:Exit->Act->World->Prop}
theorem pX(R_block_reader_block__o0_s2:ak->Option (af×ak))(hR_block_reader_block__o0_s2:wV R_block_reader_block__o0_s2)(n:Nat)(v1:Int)(v7:Bs)(v8:Bs)(v92:Bool)(b4:af)(b5:af)(b6:ax)(b10:af)(b1000000:ak)(o:af×ak)(h:dF R_block_reader_block__o0_s2 n v1 v7 v8 v92 b4 b5 b6 b10 b1000000=some o)(hQ:To 114 F0 w0 [(0,.own 1000000 0),(1,vi v1),(4,.own 4 0),(5,.own 5 0),(7,.str v7),(10,.own 10 0)] [(4,26,qc6 b4),(5,26,dQ 4302 4303 b5),(10,26,qc6 o.1),(4302,9,[rc2 b5.ay]),(4303,26,[aQ b5.aj]),(504000,50,[aK o.2.f_l]),(1000000,46,aM 504000 o.2)] .normal Q):Wp Tryz.prog 114 F0 w0 [(0,.own 1000000 0),(1,vi v1),(4,.own 4 0),(5,.own 5 0),(6,.own 6 0),(7,.str v7),(8,.str v8),(10,.own 10 0),(92,vb v92)] [(4,26,qc6 b4),(5,26,dQ 4302 4303 b5),(6,50,l6 b6),(10,26,qc6 b10),(4302,9,[rc2 b5.ay]),(4303,26,[aQ b5.aj]),(fq b1000000),(iC b1000000)] (cB (cA (cB (cB (cB (cB (cB (cI (cB (cI (cI (cA (cB (cB (cI (cB (cF Tryz.f56))))))))))))))))) Q:=by
 unfold dF at h
 refine cn h (fun h=>?_) (fun h=>?_)
 ·obtain⟨r6,hr6,h⟩:=aF h
  refine rb [] 4 ⟨[(1000000,1000000),(1010000,504000)],[(200,504000),(1000000,1000000)],[.own 1000000 0,vi b6.eP,.str v8],[(tW b1000000),(uG b1000000)],.agg (qc6 r6.1),[(200,50,[aK r6.2.f_l]),(1000000,46,aM 200 r6.2)]⟩ [0,1,4,5,7,10] [4,5,10,4302,4303,504000,1000000] [(0,.own 1000000 0),(1,vi v1),(4,.own 4 0),(5,.own 5 0),(7,.str v7),(10,.own 10 0)] [(4,26,qc6 b4),(5,26,dQ 4302 4303 b5),(10,26,qc6 r6.1),(4302,9,[rc2 b5.ay]),(4303,26,[aQ b5.aj]),(504000,50,[aK r6.2.f_l]),(1000000,46,aM 504000 r6.2)] ((mh n b6.eP v8 b1000000 _ hr6)) (kt [0,1,4,5,7,10] [4,5,10,4302,4303,504000,1000000] [(0,.own 1000000 0),(1,vi v1),(4,.own 4 0),(5,.own 5 0),(7,.str v7),(10,.own 10 0)] [(4,26,qc6 b4),(5,26,dQ 4302 4303 b5),(10,26,qc6 r6.1),(4302,9,[rc2 b5.ay]),(4303,26,[aQ b5.aj]),(504000,50,[aK r6.2.f_l]),(1000000,46,aM 504000 r6.2)] ?_)
  cases h
  exact hQ
 ·obtain⟨r7,hr7,h⟩:=aF h
  refine rb [] 2 ⟨[(1000000,1000000),(1010000,504000)],[(200,504000),(1000000,1000000)],[.own 1000000 0,vi v1,vb true],[(tW b1000000),(uG b1000000)],.agg (qc6 r7.1),[(200,50,[aK r7.2.f_l]),(1000000,46,aM 200 r7.2)]⟩ [0,1,4,5,7,10] [4,5,10,4302,4303,504000,1000000] [(0,.own 1000000 0),(1,vi v1),(4,.own 4 0),(5,.own 5 0),(7,.str v7),(10,.own 10 0)] [(4,26,qc6 b4),(5,26,dQ 4302 4303 b5),(10,26,qc6 r7.1),(4302,9,[rc2 b5.ay]),(4303,26,[aQ b5.aj]),(504000,50,[aK r7.2.f_l]),(1000000,46,aM 504000 r7.2)] ((kS R_block_reader_block__o0_s2 hR_block_reader_block__o0_s2 n v1 true b1000000 _ hr7)) (kt [0,1,4,5,7,10] [4,5,10,4302,4303,504000,1000000] [(0,.own 1000000 0),(1,vi v1),(4,.own 4 0),(5,.own 5 0),(7,.str v7),(10,.own 10 0)] [(4,26,qc6 b4),(5,26,dQ 4302 4303 b5),(10,26,qc6 r7.1),(4302,9,[rc2 b5.ay]),(4303,26,[aQ b5.aj]),(504000,50,[aK r7.2.f_l]),(1000000,46,aM 504000 r7.2)] ?_)
  cases h
  exact hQ
def bZ(R_block_reader_block__o0_s2:ak->Option (af×ak))(n:Nat)(v1:Int):Nat->af->af->ak->Option (Sum (af×af×ak) (af×ak))
 |0,_,_,_=>none
 |k+1,b4,b5,b1000000=>if(bif (b1000000.f_e==0) then(decide (b1000000.aC<(List.length b1000000.f_l:Int))) else false)=true then(if(decide (0<=b1000000.aC/\b1000000.aC<(List.length b1000000.f_l:Int)))=true then((jo n (((b1000000.f_l)[Int.toNat b1000000.aC]?.getD (ax.mk 0 0 [])).av)).bind fun r1 =>
 ((if(((decide (r1.2.2>0))==true)&&(((decide (r1.2.2<0))==false)&&((((((b1000000.f_l)[Int.toNat b1000000.aC]?.getD (ax.mk 0 0 [])).aH)==v1)==true)&&((decide ((((b1000000.f_l)[Int.toNat b1000000.aC]?.getD (ax.mk 0 0 [])).aH)>v1))==false))))=true then oJ n b5.ay r1.1 else some false)).bind fun r2 =>
 aR ((bif (decide ((((b1000000.f_l)[Int.toNat b1000000.aC]?.getD (ax.mk 0 0 [])).aH)>v1)) then true else(bif ((((b1000000.f_l)[Int.toNat b1000000.aC]?.getD (ax.mk 0 0 [])).aH)==v1) then(bif (decide (r1.2.2<0)) then true else(bif (decide (r1.2.2>0)) then r2 else false)) else false)):Bool) fun x3 =>
 if x3=true then(aR (df (((b1000000.f_l)[Int.toNat b1000000.aC]?.getD (ax.mk 0 0 [])).eP) 3 b1000000) fun r4 =>
 some (.inr (r4.1,r4.2)))
 else(aR ((bif (decide ((((b1000000.f_l)[Int.toNat b1000000.aC]?.getD (ax.mk 0 0 [])).aH)<v1)) then true else(r1.2.2==0)):Bool) fun x5 =>
 if x5=true then(some (.inl (b4,b5,b1000000)))
 else((dF R_block_reader_block__o0_s2 n v1 r1.1 r1.2.1 (!(r1.2.1==[])) b4 b5 ((b1000000.f_l)[Int.toNat b1000000.aC]?.getD (ax.mk 0 0 [])) (af.mk 0 [] [] []) (ak.mk b1000000.f_l (IntKind.wrap .i64 (b1000000.aC+1)) b1000000.mF b1000000.f_e)).bind fun o6 =>
 if(decide ((List.length b5.ay+List.length ([r1.1]:Ls))*(16+1)<=limit))=true then(if(decide ((List.length b5.aj+List.length ([o6.1]:List (af)))*(72+1)<=limit))=true then(bZ R_block_reader_block__o0_s2 n v1 k b4 (af.mk b5.aG b5.av (b5.ay++([r1.1]:Ls)) (b5.aj++([o6.1]:List (af)))) o6.2) else none) else none))) else none)
 else(some (.inl (b4,b5,b1000000)))
theorem qb(R_block_reader_block__o0_s2:ak->Option (af×ak))(hR_block_reader_block__o0_s2:wV R_block_reader_block__o0_s2)(n:Nat)(v1:Int)(k:Nat):∀(b4:af)(b5:af)(b1000000:ak)(o:Sum (af×af×ak) (af×ak)),bZ R_block_reader_block__o0_s2 n v1 k b4 b5 b1000000=some o->(Sum.elim (fun s=>To 114 F0 w0 [(4,.own 4 0),(5,.own 5 0)] [(4,26,qc6 s.1),(5,26,dQ 4302 4303 s.2.1),(4302,9,[rc2 s.2.1.ay]),(4303,26,[aQ s.2.1.aj]),(504000,50,[aK s.2.2.f_l]),(1000000,46,aM 504000 s.2.2)] (.exit 0) Q) (fun s=>To 114 F0 w0 [(4,.own 4 0)] [(4,26,qc6 s.1),(504000,50,[aK s.2.f_l]),(1000000,46,aM 504000 s.2)] .ret Q)) o->WL Tryz.prog 114 F0 w0 [(0,.own 1000000 0),(1,vi v1),(4,.own 4 0),(5,.own 5 0)] [(4,26,qc6 b4),(5,26,dQ 4302 4303 b5),(4302,9,[rc2 b5.ay]),(4303,26,[aQ b5.aj]),(fq b1000000),(iC b1000000)] (cI (cI (cA (cB (cB (cI (cB (cF Tryz.f56)))))))) Q:=by
 induction k with
 |zero=>intro b4 b5 b1000000 o h;cases h
 |succ k ih =>
  intro b4 b5 b1000000 o h hQ
  rw[bZ] at h
  refine WL.round (Wp.seq (Wp.seq (Wp.eH hm hΓ [] [0,1,4,5,28] [4,5,4302,4303,504000,1000000] (K':=[(0,.own 1000000 0),(1,vi v1),(4,.own 4 0),(5,.own 5 0),(28,vb (QR b1000000))]) (L':=[(4,26,qc6 b4),(5,26,dQ 4302 4303 b5),(4302,9,[rc2 b5.ay]),(4303,26,[aQ b5.aj]),(fq b1000000),(iC b1000000)]) (ob:=[]) (by kernel_rfl) au.nil (To.ah (cn h (fun h=>?_) (fun h=>?_))))))
  ·refine Wp.skip (To.ah (Wp.block (Wp.seq ?_)))
   obtain⟨hc9,h⟩:=aL h
   refine Wp.eH hm hΓ [] [0,1,4,5,6] [4,5,6,4302,4303,504000,1000000] (K':=[(0,.own 1000000 0),(1,vi v1),(4,.own 4 0),(5,.own 5 0),(6,.own 6 0)]) (L':=[(4,26,qc6 b4),(5,26,dQ 4302 4303 b5),(nK b1000000),(4302,9,[rc2 b5.ay]),(4303,26,[aQ b5.aj]),(fq b1000000),(iC b1000000)]) (ob:=[(yh b1000000)=true,(yh b1000000)=true]) (by kernel_rfl) (au.cons hc9 (au.cons hc9 au.nil)) (To.ah (Wp.seq ?_))
   obtain⟨r1,hr1,h⟩:=aF h
   refine rc [] 2 [0,1,4,5,6,7,8,9] [4,5,6,4302,4303,504000,1000000] [(0,.own 1000000 0),(1,vi v1),(4,.own 4 0),(5,.own 5 0),(6,.own 6 0),(7,.str r1.1),(8,.str r1.2.1),(9,vi r1.2.2)] [(4,26,qc6 b4),(5,26,dQ 4302 4303 b5),(nK b1000000),(4302,9,[rc2 b5.ay]),(4303,26,[aQ b5.aj]),(fq b1000000),(iC b1000000)] (vk n ((lY b1000000).av) _ hr1) (To.ah (Wp.seq (Wp.block (Wp.seq ?_))))
   obtain⟨r2,hr2,h⟩:=aF h
   obtain⟨x3,hx3,h⟩:=bI h
   refine rr [] [(19,vb r2)] [] [0,1,4,5,6,7,8,9,46] [4,5,6,4302,4303,504000,1000000] [(0,.own 1000000 0),(1,vi v1),(4,.own 4 0),(5,.own 5 0),(6,.own 6 0),(7,.str r1.1),(8,.str r1.2.1),(9,vi r1.2.2),(46,vb (bif (Nk b1000000 v1) then true else(bif (((lY b1000000).aH)==v1) then(bif (decide (r1.2.2<0)) then true else(bif (decide (r1.2.2>0)) then r2 else false)) else false)))] [(4,26,qc6 b4),(5,26,dQ 4302 4303 b5),(nK b1000000),(4302,9,[rc2 b5.ay]),(4303,26,[aQ b5.aj]),(fq b1000000),(iC b1000000)] [((((decide (r1.2.2>0))==true)&&(((decide (r1.2.2<0))==false)&&(((((lY b1000000).aH)==v1)==true)&&((Nk b1000000 v1)==false))))=true->CX Tryz.prog 88 [ls b5.ay,.str r1.1] (vb r2))] (au.cons (fun hg=>cx (IW n b5.ay r1.1 _ (jl hg hr2))) au.nil) (To.eq (K':=[(0,.own 1000000 0),(1,vi v1),(4,.own 4 0),(5,.own 5 0),(6,.own 6 0),(7,.str r1.1),(8,.str r1.2.1),(9,vi r1.2.2),(46,vb x3)]) (L':=[(4,26,qc6 b4),(5,26,dQ 4302 4303 b5),(nK b1000000),(4302,9,[rc2 b5.ay]),(4303,26,[aQ b5.aj]),(fq b1000000),(iC b1000000)]) (by cases hx3;rfl) (by cases hx3;rfl) (To.ah (cn h (fun h=>?_) (fun h=>?_))))
   ·refine Wp.seq ?_
    obtain⟨r4,hr4,h⟩:=bI h
    refine rb [] 3 ⟨[(1000000,1000000),(1010000,504000)],[(200,504000),(1000000,1000000)],[.own 1000000 0,vi ((lY b1000000).eP),vi 3],[(tW b1000000),(uG b1000000)],.agg (qc6 r4.1),[(200,50,[aK r4.2.f_l]),(1000000,46,aM 200 r4.2)]⟩ [4] [4,504000,1000000] [(4,.own 4 0)] [(4,26,qc6 r4.1),(504000,50,[aK r4.2.f_l]),(1000000,46,aM 504000 r4.2)] ((fu ((lY b1000000).eP) 3 b1000000 _ hr4)) (To.ah (Wp.ret (To.aU (To.aO (To.aU (To.aO ?_))))))
    cases h
    exact hQ
   ·refine Wp.seq ?_
    obtain⟨x5,hx5,h⟩:=bI h
    refine rg [0,1,4,5,6,7,8,75] [4,5,6,4302,4303,504000,1000000] [(0,.own 1000000 0),(1,vi v1),(4,.own 4 0),(5,.own 5 0),(6,.own 6 0),(7,.str r1.1),(8,.str r1.2.1),(75,vb (bif (decide (((lY b1000000).aH)<v1)) then true else(r1.2.2==0)))] [(4,26,qc6 b4),(5,26,dQ 4302 4303 b5),(nK b1000000),(4302,9,[rc2 b5.ay]),(4303,26,[aQ b5.aj]),(fq b1000000),(iC b1000000)] (To.eq (K':=[(0,.own 1000000 0),(1,vi v1),(4,.own 4 0),(5,.own 5 0),(6,.own 6 0),(7,.str r1.1),(8,.str r1.2.1),(75,vb x5)]) (L':=[(4,26,qc6 b4),(5,26,dQ 4302 4303 b5),(nK b1000000),(4302,9,[rc2 b5.ay]),(4303,26,[aQ b5.aj]),(fq b1000000),(iC b1000000)]) (by cases hx5;rfl) (by cases hx5;rfl) (To.ah (cn h (fun h=>?_) (fun h=>?_))))
    ·refine Wp.exit (To.xZ (by decide) (To.dE (To.xZ (by decide) (To.dE (kt [4,5] [4,5,4302,4303,504000,1000000] [(4,.own 4 0),(5,.own 5 0)] [(4,26,qc6 b4),(5,26,dQ 4302 4303 b5),(4302,9,[rc2 b5.ay]),(4303,26,[aQ b5.aj]),(fq b1000000),(iC b1000000)] ?_)))))
     cases h
     exact hQ
    ·refine Wp.skip (To.bf (To.ah (Wp.seq (rg [0,1,4,5,6,7,8] [4,5,6,4302,4303,504000,1000000] [(0,.own 1000000 0),(1,vi v1),(4,.own 4 0),(5,.own 5 0),(6,.own 6 0),(7,.str r1.1),(8,.str r1.2.1)] [(4,26,qc6 b4),(5,26,dQ 4302 4303 b5),(nK b1000000),(4302,9,[rc2 b5.ay]),(4303,26,[aQ b5.aj]),(fq b1000000),(zW b1000000)] (To.ah (Wp.seq (rg [0,1,4,5,6,7,8,10] [4,5,6,10,4302,4303,504000,1000000] [(0,.own 1000000 0),(1,vi v1),(4,.own 4 0),(5,.own 5 0),(6,.own 6 0),(7,.str r1.1),(8,.str r1.2.1),(10,.own 10 0)] [(4,26,qc6 b4),(5,26,dQ 4302 4303 b5),(nK b1000000),(10,26,[vi 0,.str [],.val (.slice none 0 0),.val (.slice none 0 0)]),(4302,9,[rc2 b5.ay]),(4303,26,[aQ b5.aj]),(fq b1000000),(zW b1000000)] (To.ah (Wp.seq (Wp.seq ?_))))))))))
     refine rg [0,1,4,5,6,7,8,10,92] [4,5,6,10,4302,4303,504000,1000000] [(0,.own 1000000 0),(1,vi v1),(4,.own 4 0),(5,.own 5 0),(6,.own 6 0),(7,.str r1.1),(8,.str r1.2.1),(10,.own 10 0),(92,vb (!(r1.2.1==[])))] [(4,26,qc6 b4),(5,26,dQ 4302 4303 b5),(nK b1000000),(10,26,[vi 0,.str [],.val (.slice none 0 0),.val (.slice none 0 0)]),(4302,9,[rc2 b5.ay]),(4303,26,[aQ b5.aj]),(fq b1000000),(zW b1000000)] (To.ah ?_)
     obtain⟨o6,ho6,h⟩:=aF h
     refine kw [0,1,4,5,6,7,8,10,92] [4,5,6,10,4302,4303,504000,1000000] [(0,.own 1000000 0),(1,vi v1),(4,.own 4 0),(5,.own 5 0),(6,.own 6 0),(7,.str r1.1),(8,.str r1.2.1),(10,.own 10 0),(92,vb (!(r1.2.1==[])))] [(4,26,qc6 b4),(5,26,dQ 4302 4303 b5),(nK b1000000),(10,26,[vi 0,.str [],.val (.slice none 0 0),.val (.slice none 0 0)]),(4302,9,[rc2 b5.ay]),(4303,26,[aQ b5.aj]),(fq b1000000),(zW b1000000)] (Wp.weak (K':=[(0,.own 1000000 0),(1,vi v1),(4,.own 4 0),(5,.own 5 0),(6,.own 6 0),(7,.str r1.1),(8,.str r1.2.1),(10,.own 10 0),(92,vb (!(r1.2.1==[])))]) (L':=[(4,26,qc6 b4),(5,26,dQ 4302 4303 b5),(nK b1000000),(10,26,[vi 0,.str [],ls [],tn4 []]),(4302,9,[rc2 b5.ay]),(4303,26,[aQ b5.aj]),(fq b1000000),(zW b1000000)]) (.cons (.refl _) (.cons (.refl _) (.cons (.refl _) (.cons (.refl _) (.cons (.refl _) (.cons (.refl _) (.cons (.refl _) (.cons (.refl _) (.cons (.refl _) .nil))))))))) (.cons (.cons (.refl _) (.cons (.refl _) (.cons (.refl _) (.cons (.refl _) .nil)))) (.cons (.cons (.refl _) (.cons (.refl _) (.cons (.refl _) (.cons (.refl _) .nil)))) (.cons (.cons (.refl _) (.cons (.refl _) (.cons (.refl _) .nil))) (.cons (.cons (.refl _) (.cons (.refl _) (.cons (.zero _ _) (.cons (.ik _ _ _) .nil)))) (.cons (.cons (.refl _) .nil) (.cons (.cons (.refl _) .nil) (.cons (.cons (.refl _) .nil) (.cons (.cons (.refl _) (.cons (.refl _) (.cons (.refl _) (.cons (.refl _) .nil)))) .nil)))))))) (pX R_block_reader_block__o0_s2 hR_block_reader_block__o0_s2 n v1 r1.1 r1.2.1 (!(r1.2.1==[])) b4 b5 (lY b1000000) zx3 (NZ b1000000) o6 ho6 (To.ah ?_)))
     obtain⟨hc7,h⟩:=aL h
     obtain⟨hc8,h⟩:=aL h
     refine Wp.sK hm hΓ [] [(3,ls [r1.1]),(4,ls (b5.ay++([r1.1]:Ls))),(8,dO [o6.1]),(9,dO (b5.aj++([o6.1]:List (af))))] [] [0,1,4,5,7,10,101,102,103,104,105,106,107,108,109,110,111,112] [4,5,10,104,105,109,110,4302,4303,504000,1000000] [0,1,4,5] [4,5,105,110,504000,1000000] (K':=[(0,.own 1000000 0),(1,vi v1),(4,.own 4 0),(5,.own 5 0)]) (L':=[(4,26,qc6 b4),(5,26,dQ 105 110 b5),(105,9,[rc2 (b5.ay++([r1.1]:Ls))]),(110,26,[aQ (b5.aj++([o6.1]:List (af)))]),(504000,50,[aK o6.2.f_l]),(1000000,46,aM 504000 o6.2)]) (ob:=[(fD 1 [.str r1.1] 1 (ls [r1.1])/\aX (ls [r1.1])),(decide ((List.length b5.ay+List.length ([r1.1]:Ls))*(16+1)<=limit))=true,(iN [] dU b5.ay (List.flatMap dU ([r1.1]:Ls)) (List.length ([r1.1]:Ls)) (ls (b5.ay++([r1.1]:Ls)))/\aX (ls (b5.ay++([r1.1]:Ls)))),(fD 4 (qc6 o6.1) 1 (dO [o6.1])/\aX (dO [o6.1])),(decide ((List.length b5.aj+List.length ([o6.1]:List (af)))*(72+1)<=limit))=true,(iN zx3 dV b5.aj (List.flatMap dV ([o6.1]:List (af))) (List.length ([o6.1]:List (af))) (dO (b5.aj++([o6.1]:List (af))))/\aX (dO (b5.aj++([o6.1]:List (af)))))]) (by kernel_rfl) (by kernel_rfl) (au.cons (jN (by kernel_rfl) rfl (by kernel_rfl) (dT _)) (au.cons hc7 (au.cons (iP rfl rfl (dT _)) (au.cons (jN (by kernel_rfl) rfl (by kernel_rfl) (bU _)) (au.cons hc8 (au.cons (iP rfl rfl (bU _)) au.nil)))))) (To.bf (nt [0,1,4,5] [4,5,105,110,504000,1000000] [(105,4302),(110,4303)] [0,1,4,5] [4,5,4302,4303,504000,1000000] [(0,.own 1000000 0),(1,vi v1),(4,.own 4 0),(5,.own 5 0)] [(4,26,qc6 b4),(5,26,dQ 4302 4303 b5),(4302,9,[rc2 (b5.ay++([r1.1]:Ls))]),(4303,26,[aQ (b5.aj++([o6.1]:List (af)))]),(504000,50,[aK o6.2.f_l]),(1000000,46,aM 504000 o6.2)] (To.again ?_)))
     exact ih b4 (af.mk b5.aG b5.av (b5.ay++([r1.1]:Ls)) (b5.aj++([o6.1]:List (af)))) o6.2 _ h hQ
  ·refine Wp.exit (To.dE (To.dE (kt [4,5] [4,5,4302,4303,504000,1000000] [(4,.own 4 0),(5,.own 5 0)] [(4,26,qc6 b4),(5,26,dQ 4302 4303 b5),(4302,9,[rc2 b5.ay]),(4303,26,[aQ b5.aj]),(fq b1000000),(iC b1000000)] ?_)))
   cases h
   exact hQ
def iy(R_block_reader_block__o0_s2:ak->Option (af×ak))(n:Nat)(a1:Int)(h0:ak):Option (af×ak) :=
 (bZ R_block_reader_block__o0_s2 n a1 n (af.mk 0 [] [] []) (af.mk 3 [] [] []) h0).bind fun o1 =>
 (Sum.elim (fun o1=>some (o1.2.1,o1.2.2)) (fun o1=>some (o1.1,o1.2))) o1
theorem sr(R_block_reader_block__o0_s2:ak->Option (af×ak))(hR_block_reader_block__o0_s2:wV R_block_reader_block__o0_s2)(n:Nat)(a1:Int)(h0:ak)(r:af×ak)(h:iy R_block_reader_block__o0_s2 n a1 h0=some r):aZ Tryz.prog 56 [.own 1000000 0,vi a1] [(1000000,46,aM 1010000 h0),(1010000,50,[aK h0.f_l])] (.agg (qc6 r.1)) [(200,50,[aK r.2.f_l]),(1000000,46,aM 200 r.2)]:=by
 unfold iy at h
 refine bo Tryz.f56 rfl fun F0 w0=>?_
 refine nw [0,1] [1000000,1010000] [(1010000,504000)] [0,1] [504000,1000000] [(0,.own 1000000 0),(1,vi a1)] [(504000,50,[aK h0.f_l]),(1000000,46,aM 504000 h0)] (Wp.seq (rg [0,1,4] [4,504000,1000000] [(0,.own 1000000 0),(1,vi a1),(4,.own 4 0)] [(4,26,[vi 0,.str [],.val (.slice none 0 0),.val (.slice none 0 0)]),(504000,50,[aK h0.f_l]),(1000000,46,aM 504000 h0)] (To.ah (Wp.scope (Wp.seq (rg [0,1,4,5] [4,5,504000,1000000] [(0,.own 1000000 0),(1,vi a1),(4,.own 4 0),(5,.own 5 0)] [(4,26,[vi 0,.str [],.val (.slice none 0 0),.val (.slice none 0 0)]),(5,26,[vi 3,.str [],.val (.slice none 0 0),.val (.slice none 0 0)]),(504000,50,[aK h0.f_l]),(1000000,46,aM 504000 h0)] (To.ah (Wp.seq (Wp.label (To.ah (Wp.seq (Wp.block ?_))))))))))))
 obtain⟨o1,ho1,h⟩:=aF h
 refine kw [0,1,4,5] [4,5,504000,1000000] [(0,.own 1000000 0),(1,vi a1),(4,.own 4 0),(5,.own 5 0)] [(4,26,[vi 0,.str [],.val (.slice none 0 0),.val (.slice none 0 0)]),(5,26,[vi 3,.str [],.val (.slice none 0 0),.val (.slice none 0 0)]),(504000,50,[aK h0.f_l]),(1000000,46,aM 504000 h0)] (Wp.pre (St.nj 5 2 4302 9 (dT _) (by decide) (by kernel_rfl) (L':=[(4,26,[vi 0,.str [],.val (.slice none 0 0),.val (.slice none 0 0)]),(5,26,[vi 3,.str [],.row 4302,.val (.slice none 0 0)]),(504000,50,[aK h0.f_l]),(1000000,46,aM 504000 h0)]) (by kernel_rfl)) (kw [0,1,4,5] [4,5,4302,504000,1000000] [(0,.own 1000000 0),(1,vi a1),(4,.own 4 0),(5,.own 5 0)] [(4,26,[vi 0,.str [],.val (.slice none 0 0),.val (.slice none 0 0)]),(5,26,[vi 3,.str [],.row 4302,.val (.slice none 0 0)]),(4302,9,[rc1 []]),(504000,50,[aK h0.f_l]),(1000000,46,aM 504000 h0)] (Wp.pre (St.settle (ks:=[4302]) (kk:=[0,1,4,5]) (kl:=[4,5,4302,504000,1000000]) (K':=[(0,.own 1000000 0),(1,vi a1),(4,.own 4 0),(5,.own 5 0)]) (L':=[(4,26,[vi 0,.str [],.val (.slice none 0 0),.val (.slice none 0 0)]),(5,26,[vi 3,.str [],.row 4302,.val (.slice none 0 0)]),(4302,9,[rc2 []]),(504000,50,[aK h0.f_l]),(1000000,46,aM 504000 h0)]) (by kernel_rfl)) (Wp.pre (St.nj 5 3 4303 26 (bU _) (by decide) (by kernel_rfl) (L':=[(4,26,[vi 0,.str [],.val (.slice none 0 0),.val (.slice none 0 0)]),(5,26,[vi 3,.str [],.row 4302,.row 4303]),(4302,9,[rc2 []]),(504000,50,[aK h0.f_l]),(1000000,46,aM 504000 h0)]) (by kernel_rfl)) (kw [0,1,4,5] [4,5,4302,4303,504000,1000000] [(0,.own 1000000 0),(1,vi a1),(4,.own 4 0),(5,.own 5 0)] [(4,26,[vi 0,.str [],.val (.slice none 0 0),.val (.slice none 0 0)]),(5,26,[vi 3,.str [],.row 4302,.row 4303]),(4302,9,[rc2 []]),(4303,26,[aQ []]),(504000,50,[aK h0.f_l]),(1000000,46,aM 504000 h0)] (Wp.weak (K':=[(0,.own 1000000 0),(1,vi a1),(4,.own 4 0),(5,.own 5 0)]) (L':=[(4,26,[vi 0,.str [],ls [],tn4 []]),(5,26,[vi 3,.str [],.row 4302,.row 4303]),(4302,9,[rc2 []]),(4303,26,[aQ []]),(504000,50,[aK h0.f_l]),(1000000,46,aM 504000 h0)]) (.cons (.refl _) (.cons (.refl _) (.cons (.refl _) (.cons (.refl _) .nil)))) (.cons (.cons (.refl _) (.cons (.refl _) (.cons (.zero _ _) (.cons (.ik _ _ _) .nil)))) (.cons (.cons (.refl _) (.cons (.refl _) (.cons (.refl _) (.cons (.refl _) .nil)))) (.cons (.cons (.refl _) .nil) (.cons (.cons (.refl _) .nil) (.cons (.cons (.refl _) .nil) (.cons (.cons (.refl _) (.cons (.refl _) (.cons (.refl _) (.cons (.refl _) .nil)))) .nil)))))) (Wp.jB (qb R_block_reader_block__o0_s2 hR_block_reader_block__o0_s2 n a1 n zx3 (af.mk 3 [] [] []) h0 o1 ho1 ?_))))))))
 rcases o1 with o1|o1
 ·replace h:=iU h
  refine To.iI (To.ah (Wp.seq (rg [4] [4,4302,4303,504000,1000000] [(4,.own 4 0)] [(4,26,dQ 4302 4303 o1.2.1),(4302,9,[rc2 o1.2.1.ay]),(4303,26,[aQ o1.2.1.aj]),(504000,50,[aK o1.2.2.f_l]),(1000000,46,aM 504000 o1.2.2)] (To.ah (Wp.ret (To.scope (.inr (.inl rfl)) (kt [4] [4,4302,4303,504000,1000000] [(4,.own 4 0)] [(4,26,dQ 4302 4303 o1.2.1),(4302,9,[rc2 o1.2.1.ay]),(4303,26,[aQ o1.2.1.aj]),(504000,50,[aK o1.2.2.f_l]),(1000000,46,aM 504000 o1.2.2)] (To.pre (St.settle (ks:=[4303]) (kk:=[4]) (kl:=[4,4302,4303,504000,1000000]) (K':=[(4,.own 4 0)]) (L':=[(4,26,dQ 4302 4303 o1.2.1),(4302,9,[rc2 o1.2.1.ay]),(4303,26,[rK o1.2.1.aj]),(504000,50,[aK o1.2.2.f_l]),(1000000,46,aM 504000 o1.2.2)]) (by kernel_rfl)) (To.pre (St.EK [4] (L':=[(4,26,JR o1.2.1),(4302,9,[rc2 o1.2.1.ay]),(4303,26,[rK o1.2.1.aj]),(504000,50,[aK o1.2.2.f_l]),(1000000,46,aM 504000 o1.2.2)]) (by kernel_rfl)) (To.weak (K':=[(4,.own 4 0)]) (L':=[(4,26,qc6 o1.2.1),(4302,9,[rc2 o1.2.1.ay]),(4303,26,[rK o1.2.1.aj]),(504000,50,[aK o1.2.2.f_l]),(1000000,46,aM 504000 o1.2.2)]) (.cons (.refl _) .nil) (.cons (.cons (.refl _) (.cons (.refl _) (.cons (.refl _) (.cons (.close _ _ _ _) .nil)))) (.cons (.cons (.refl _) .nil) (.cons (.cons (.refl _) .nil) (.cons (.cons (.refl _) .nil) (.cons (.cons (.refl _) (.cons (.refl _) (.cons (.refl _) (.cons (.refl _) .nil)))) .nil))))) ?_))))))))))
  refine nt [4] [4,504000,1000000] [(504000,200)] [4] [4,200,1000000] [(4,.own 4 0)] [(4,26,qc6 o1.2.1),(200,50,[aK o1.2.2.f_l]),(1000000,46,aM 200 o1.2.2)] ?_
  cases h
  exact To.fl hΓ [200,1000000] (by kernel_rfl) (by kernel_rfl)
 ·replace h:=iV h
  refine To.aU (To.aO (To.scope (.inr (.inl rfl)) (nt [4] [4,504000,1000000] [(504000,200)] [4] [4,200,1000000] [(4,.own 4 0)] [(4,26,qc6 o1.1),(200,50,[aK o1.2.f_l]),(1000000,46,aM 200 o1.2)] ?_)))
  cases h
  exact To.fl hΓ [200,1000000] (by kernel_rfl) (by kernel_rfl)
def ff(R_block_reader_block__o0_s2:ak->Option (af×ak))(n:Nat)(v7:Int)(b2:af)(b3:ax)(b4:af)(b1000000:ak):Option (Sum (af×af×ak) (af×ak)) :=
 if(ft b3.av)=true then((i7 R_block_reader_block__o0_s2 n b3.aH b1000000).bind fun r2 =>
 some (.inl (b2,r2.1,r2.2)))
 else(if(decide (v7>0))=true then((iy R_block_reader_block__o0_s2 n b3.aH b1000000).bind fun r3 =>
 some (.inl (b2,r3.1,r3.2)))
 else(if(decide (v7<0))=true then(aR (df b3.eP 3 b1000000) fun r4 =>
 some (.inr (r4.1,r4.2)))
 else((dI n b3.eP b3.av (ak.mk b1000000.f_l (IntKind.wrap .i64 (b1000000.aC+1)) b1000000.mF b1000000.f_e)).bind fun r5 =>
 some (.inl (b2,r5.1,r5.2)))))
theorem oP(R_block_reader_block__o0_s2:ak->Option (af×ak))(hR_block_reader_block__o0_s2:wV R_block_reader_block__o0_s2)(n:Nat)(v7:Int)(b2:af)(b3:ax)(b4:af)(b1000000:ak)(o:Sum (af×af×ak) (af×ak))(h:ff R_block_reader_block__o0_s2 n v7 b2 b3 b4 b1000000=some o)(hQ:(Sum.elim (fun s=>To 61 F0 w0 [(2,.own 2 0),(4,.own 4 0)] [(2,26,qc6 s.1),(4,26,qc6 s.2.1),(504000,50,[aK s.2.2.f_l]),(1000000,46,aM 504000 s.2.2)] .normal Q) (fun s=>To 61 F0 w0 [(2,.own 2 0)] [(2,26,qc6 s.1),(504000,50,[aK s.2.f_l]),(1000000,46,aM 504000 s.2)] .ret Q)) o):Wp Tryz.prog 61 F0 w0 [(0,.own 1000000 0),(2,.own 2 0),(3,.own 3 0),(4,.own 4 0),(7,vi v7)] [(2,26,qc6 b2),(3,50,l6 b3),(4,26,qc6 b4),(fq b1000000),(iC b1000000)] (cB (cA (cB (cB (cB (cF Tryz.f24)))))) Q:=by
 unfold ff at h
 refine Wp.block (Wp.seq (rc [] 2 [0,2,3,4,7,38] [2,3,4,504000,1000000] [(0,.own 1000000 0),(2,.own 2 0),(3,.own 3 0),(4,.own 4 0),(7,vi v7),(38,vb (ft b3.av))] [(2,26,qc6 b2),(3,50,l6 b3),(4,26,qc6 b4),(fq b1000000),(iC b1000000)] (pH b3.av _ rfl) (To.ah (cn h (fun h=>?_) (fun h=>?_)))))
 ·obtain⟨r2,hr2,h⟩:=aF h
  refine rb [] 3 ⟨[(1000000,1000000),(1010000,504000)],[(200,504000),(1000000,1000000)],[.own 1000000 0,vi b3.aH],[(tW b1000000),(uG b1000000)],.agg (qc6 r2.1),[(200,50,[aK r2.2.f_l]),(1000000,46,aM 200 r2.2)]⟩ [2,4] [2,4,504000,1000000] [(2,.own 2 0),(4,.own 4 0)] [(2,26,qc6 b2),(4,26,qc6 r2.1),(504000,50,[aK r2.2.f_l]),(1000000,46,aM 504000 r2.2)] ((rJ R_block_reader_block__o0_s2 hR_block_reader_block__o0_s2 n b3.aH b1000000 _ hr2)) (To.bf ?_)
  cases h
  exact hQ
 ·refine Wp.seq (rg [0,2,3,4,7,46] [2,3,4,504000,1000000] [(0,.own 1000000 0),(2,.own 2 0),(3,.own 3 0),(4,.own 4 0),(7,vi v7),(46,vb (decide (v7>0)))] [(2,26,qc6 b2),(3,50,l6 b3),(4,26,qc6 b4),(fq b1000000),(iC b1000000)] (To.ah (cn h (fun h=>?_) (fun h=>?_))))
  ·obtain⟨r3,hr3,h⟩:=aF h
   refine rb [] 3 ⟨[(1000000,1000000),(1010000,504000)],[(200,504000),(1000000,1000000)],[.own 1000000 0,vi b3.aH],[(tW b1000000),(uG b1000000)],.agg (qc6 r3.1),[(200,50,[aK r3.2.f_l]),(1000000,46,aM 200 r3.2)]⟩ [2,4] [2,4,504000,1000000] [(2,.own 2 0),(4,.own 4 0)] [(2,26,qc6 b2),(4,26,qc6 r3.1),(504000,50,[aK r3.2.f_l]),(1000000,46,aM 504000 r3.2)] ((sr R_block_reader_block__o0_s2 hR_block_reader_block__o0_s2 n b3.aH b1000000 _ hr3)) (To.bf ?_)
   cases h
   exact hQ
  ·refine Wp.seq (rg [0,2,3,4,53] [2,3,4,504000,1000000] [(0,.own 1000000 0),(2,.own 2 0),(3,.own 3 0),(4,.own 4 0),(53,vb (decide (v7<0)))] [(2,26,qc6 b2),(3,50,l6 b3),(4,26,qc6 b4),(fq b1000000),(iC b1000000)] (To.ah (cn h (fun h=>?_) (fun h=>?_))))
   ·refine Wp.seq ?_
    obtain⟨r4,hr4,h⟩:=bI h
    refine rb [] 3 ⟨[(1000000,1000000),(1010000,504000)],[(200,504000),(1000000,1000000)],[.own 1000000 0,vi b3.eP,vi 3],[(tW b1000000),(uG b1000000)],.agg (qc6 r4.1),[(200,50,[aK r4.2.f_l]),(1000000,46,aM 200 r4.2)]⟩ [2] [2,504000,1000000] [(2,.own 2 0)] [(2,26,qc6 r4.1),(504000,50,[aK r4.2.f_l]),(1000000,46,aM 504000 r4.2)] ((fu b3.eP 3 b1000000 _ hr4)) (To.ah (Wp.ret (To.aU ?_)))
    cases h
    exact hQ
   ·refine Wp.seq (rg [0,2,3,4] [2,3,4,504000,1000000] [(0,.own 1000000 0),(2,.own 2 0),(3,.own 3 0),(4,.own 4 0)] [(2,26,qc6 b2),(3,50,l6 b3),(4,26,qc6 b4),(fq b1000000),(zW b1000000)] (To.ah ?_))
    obtain⟨r5,hr5,h⟩:=aF h
    refine rb [] 5 ⟨[(1000000,1000000),(1010000,504000)],[(200,504000),(1000000,1000000)],[.own 1000000 0,vi b3.eP,.str b3.av],[(N1 b1000000),(uG b1000000)],.agg (qc6 r5.1),[(200,50,[aK r5.2.f_l]),(1000000,46,aM 200 r5.2)]⟩ [2,4] [2,4,504000,1000000] [(2,.own 2 0),(4,.own 4 0)] [(2,26,qc6 b2),(4,26,qc6 r5.1),(504000,50,[aK r5.2.f_l]),(1000000,46,aM 504000 r5.2)] ((mh n b3.eP b3.av (NZ b1000000) _ hr5)) (To.bf ?_)
    cases h
    exact hQ
def dK(R_block_reader_block__o0_s2:ak->Option (af×ak))(n:Nat)(h0:ak):Option (af×ak) :=
 if(decide (0<=h0.aC/\h0.aC<(List.length h0.f_l:Int)))=true then((jo n (((h0.f_l)[Int.toNat h0.aC]?.getD (ax.mk 0 0 [])).av)).bind fun r1 =>
 (ff R_block_reader_block__o0_s2 n r1.2.2 (af.mk 0 [] [] []) ((h0.f_l)[Int.toNat h0.aC]?.getD (ax.mk 0 0 [])) (af.mk 0 [] [] []) h0).bind fun o2 =>
 (Sum.elim (fun o2=>some (o2.2.1,o2.2.2)) (fun o2=>some (o2.1,o2.2))) o2) else none
theorem oZ(R_block_reader_block__o0_s2:ak->Option (af×ak))(hR_block_reader_block__o0_s2:wV R_block_reader_block__o0_s2)(n:Nat)(h0:ak)(r:af×ak)(h:dK R_block_reader_block__o0_s2 n h0=some r):aZ Tryz.prog 24 [.own 1000000 0] [(1000000,46,aM 1010000 h0),(1010000,50,[aK h0.f_l])] (.agg (qc6 r.1)) [(200,50,[aK r.2.f_l]),(1000000,46,aM 200 r.2)]:=by
 unfold dK at h
 refine bo Tryz.f24 rfl fun F0 w0=>?_
 refine nw [0] [1000000,1010000] [(1010000,504000)] [0] [504000,1000000] [(0,.own 1000000 0)] [(504000,50,[aK h0.f_l]),(1000000,46,aM 504000 h0)] (Wp.seq (rg [0,2] [2,504000,1000000] [(0,.own 1000000 0),(2,.own 2 0)] [(2,26,[vi 0,.str [],.val (.slice none 0 0),.val (.slice none 0 0)]),(504000,50,[aK h0.f_l]),(1000000,46,aM 504000 h0)] (To.ah (Wp.seq ?_))))
 obtain⟨hc3,h⟩:=aL h
 refine Wp.eH hm hΓ [] [0,2,3] [2,3,504000,1000000] (K':=[(0,.own 1000000 0),(2,.own 2 0),(3,.own 3 0)]) (L':=[(2,26,[vi 0,.str [],.val (.slice none 0 0),.val (.slice none 0 0)]),(3,50,[vi (((h0.f_l)[Int.toNat h0.aC]?.getD gv).eP),vi (((h0.f_l)[Int.toNat h0.aC]?.getD gv).aH),.str (((h0.f_l)[Int.toNat h0.aC]?.getD gv).av)]),(504000,50,[aK h0.f_l]),(1000000,46,aM 504000 h0)]) (ob:=[(decide (0<=h0.aC/\h0.aC<(List.length h0.f_l:Int)))=true,(decide (0<=h0.aC/\h0.aC<(List.length h0.f_l:Int)))=true]) (by kernel_rfl) (au.cons hc3 (au.cons hc3 au.nil)) (To.ah (Wp.seq (rg [0,2,3,4] [2,3,4,504000,1000000] [(0,.own 1000000 0),(2,.own 2 0),(3,.own 3 0),(4,.own 4 0)] [(2,26,[vi 0,.str [],.val (.slice none 0 0),.val (.slice none 0 0)]),(3,50,[vi (((h0.f_l)[Int.toNat h0.aC]?.getD gv).eP),vi (((h0.f_l)[Int.toNat h0.aC]?.getD gv).aH),.str (((h0.f_l)[Int.toNat h0.aC]?.getD gv).av)]),(4,26,[vi 0,.str [],.val (.slice none 0 0),.val (.slice none 0 0)]),(504000,50,[aK h0.f_l]),(1000000,46,aM 504000 h0)] (To.ah (Wp.seq (Wp.seq ?_))))))
 obtain⟨r1,hr1,h⟩:=aF h
 refine rc [] 2 [0,2,3,4,7] [2,3,4,504000,1000000] [(0,.own 1000000 0),(2,.own 2 0),(3,.own 3 0),(4,.own 4 0),(7,vi r1.2.2)] [(2,26,[vi 0,.str [],.val (.slice none 0 0),.val (.slice none 0 0)]),(3,50,[vi (((h0.f_l)[Int.toNat h0.aC]?.getD gv).eP),vi (((h0.f_l)[Int.toNat h0.aC]?.getD gv).aH),.str (((h0.f_l)[Int.toNat h0.aC]?.getD gv).av)]),(4,26,[vi 0,.str [],.val (.slice none 0 0),.val (.slice none 0 0)]),(504000,50,[aK h0.f_l]),(1000000,46,aM 504000 h0)] (vk n (((h0.f_l)[Int.toNat h0.aC]?.getD gv).av) _ hr1) (To.ah ?_)
 obtain⟨o2,ho2,h⟩:=aF h
 refine kw [0,2,3,4,7] [2,3,4,504000,1000000] [(0,.own 1000000 0),(2,.own 2 0),(3,.own 3 0),(4,.own 4 0),(7,vi r1.2.2)] [(2,26,[vi 0,.str [],.val (.slice none 0 0),.val (.slice none 0 0)]),(3,50,[vi (((h0.f_l)[Int.toNat h0.aC]?.getD gv).eP),vi (((h0.f_l)[Int.toNat h0.aC]?.getD gv).aH),.str (((h0.f_l)[Int.toNat h0.aC]?.getD gv).av)]),(4,26,[vi 0,.str [],.val (.slice none 0 0),.val (.slice none 0 0)]),(504000,50,[aK h0.f_l]),(1000000,46,aM 504000 h0)] (Wp.weak (K':=[(0,.own 1000000 0),(2,.own 2 0),(3,.own 3 0),(4,.own 4 0),(7,vi r1.2.2)]) (L':=[(2,26,[vi 0,.str [],ls [],tn4 []]),(3,50,[vi (((h0.f_l)[Int.toNat h0.aC]?.getD gv).eP),vi (((h0.f_l)[Int.toNat h0.aC]?.getD gv).aH),.str (((h0.f_l)[Int.toNat h0.aC]?.getD gv).av)]),(4,26,[vi 0,.str [],ls [],tn4 []]),(504000,50,[aK h0.f_l]),(1000000,46,aM 504000 h0)]) (.cons (.refl _) (.cons (.refl _) (.cons (.refl _) (.cons (.refl _) (.cons (.refl _) .nil))))) (.cons (.cons (.refl _) (.cons (.refl _) (.cons (.zero _ _) (.cons (.ik _ _ _) .nil)))) (.cons (.cons (.refl _) (.cons (.refl _) (.cons (.refl _) .nil))) (.cons (.cons (.refl _) (.cons (.refl _) (.cons (.zero _ _) (.cons (.ik _ _ _) .nil)))) (.cons (.cons (.refl _) .nil) (.cons (.cons (.refl _) (.cons (.refl _) (.cons (.refl _) (.cons (.refl _) .nil)))) .nil))))) (oP R_block_reader_block__o0_s2 hR_block_reader_block__o0_s2 n r1.2.2 zx3 ((h0.f_l)[Int.toNat h0.aC]?.getD gv) zx3 h0 o2 ho2 ?_))
 rcases o2 with o2|o2
 ·replace h:=iU h
  refine To.ah (Wp.seq (rg [2] [2,504000,1000000] [(2,.own 2 0)] [(2,26,qc6 o2.2.1),(504000,50,[aK o2.2.2.f_l]),(1000000,46,aM 504000 o2.2.2)] (To.ah (Wp.ret (nt [2] [2,504000,1000000] [(504000,200)] [2] [2,200,1000000] [(2,.own 2 0)] [(2,26,qc6 o2.2.1),(200,50,[aK o2.2.2.f_l]),(1000000,46,aM 200 o2.2.2)] ?_)))))
  cases h
  exact To.fl hΓ [200,1000000] (by kernel_rfl) (by kernel_rfl)
 ·replace h:=iV h
  refine To.aO (nt [2] [2,504000,1000000] [(504000,200)] [2] [2,200,1000000] [(2,.own 2 0)] [(2,26,qc6 o2.1),(200,50,[aK o2.2.f_l]),(1000000,46,aM 200 o2.2)] ?_)
  cases h
  exact To.fl hΓ [200,1000000] (by kernel_rfl) (by kernel_rfl)
def bY:Nat->ak->Option (af×ak)
 |0=>fun _=>none
 |n+1=>dK (bY n) n
theorem pY(n:Nat):∀(h0:ak)(r:af×ak),bY n h0=some r->aZ Tryz.prog 24 [.own 1000000 0] [(1000000,46,aM 1010000 h0),(1010000,50,[aK h0.f_l])] (.agg (qc6 r.1)) [(200,50,[aK r.2.f_l]),(1000000,46,aM 200 r.2)]:=by
 induction n with
 |zero=>intro h0 r h;cases h
 |succ n ih=>exact fun h0 r h=>oZ (bY n) ih n h0 r h
def nC(n:Nat)(v46:Bool)(b2:af)(b9:af)(b27:ak):Option (ak) :=
 if v46=true then(if(decide (0<=b27.aC/\b27.aC<(List.length b27.f_l:Int)))=true then(aR (df (((b27.f_l)[Int.toNat b27.aC]?.getD (ax.mk 0 0 [])).eP) 3 b27) fun r3 =>
 some r3.2) else none)
 else some b27
abbrev J7(x0:ak):=((x0.f_l)[Int.toNat x0.aC]?.getD gv)
theorem yT(n:Nat)(v46:Bool)(b2:af)(b9:af)(b27:ak)(o:ak)(h:nC n v46 b2 b9 b27=some o)(hQ:To 81 F0 w0 [(2,.own 2 0),(8,.own 27 0),(9,.own 9 0)] [(2,26,qc6 b2),(9,26,qc6 b9),(27,46,aM 5620 o),(5620,50,[aK o.f_l])] .normal Q):Wp Tryz.prog 81 F0 w0 [(2,.own 2 0),(8,.own 27 0),(9,.own 9 0),(46,vb v46)] [(2,26,qc6 b2),(9,26,qc6 b9),(27,46,aM 5620 b27),(5620,50,[aK b27.f_l])] (cB (cA (cB (cB (cB (cB (cB (cB (cF Tryz.f9))))))))) Q:=by
 unfold nC at h
 refine cn h (fun h=>?_) (fun h=>?_)
 ·obtain⟨hc4,h⟩:=aL h
  obtain⟨r3,hr3,h⟩:=bI h
  refine Wp.sK hm hΓ [] [] [(12,⟨[(1000000,27),(1010000,5620)],[(200,5620),(1000000,27)],[.own 1000000 0,vi ((J7 b27).eP),vi 3],[(tW b27),(1010000,50,[aK b27.f_l])],.agg (qc6 r3.1),[(200,50,[aK r3.2.f_l]),(1000000,46,aM 200 r3.2)]⟩)] [2,8,9,46,47,48,49,50,51,52,53,54,55,56,57,58,59] [2,9,27,5620] [2,8,9] [2,9,27,5620] (K':=[(2,.own 2 0),(8,.own 27 0),(9,.own 9 0)]) (L':=[(2,26,qc6 b2),(9,26,qc6 b9),(27,46,aM 5620 r3.2),(5620,50,[aK r3.2.f_l])]) (ob:=[(yh b27)=true,(yh b27)=true,rO (aZ Tryz.prog) 25 [.own 27 0,vi ((J7 b27).eP),vi 3] [some (46,aM 5620 b27),some (50,[aK b27.f_l])] ⟨[(1000000,27),(1010000,5620)],[(200,5620),(1000000,27)],[.own 1000000 0,vi ((J7 b27).eP),vi 3],[(tW b27),(1010000,50,[aK b27.f_l])],.agg (qc6 r3.1),[(200,50,[aK r3.2.f_l]),(1000000,46,aM 200 r3.2)]⟩]) (by kernel_rfl) (by kernel_rfl) (au.cons hc4 (au.cons hc4 (au.cons (⟨(fu ((J7 b27).eP) 3 b27 _ hr3),by kernel_rfl,by kernel_rfl⟩) au.nil))) ?_
  refine kt [2,8,9] [2,9,27,5620] [(2,.own 2 0),(8,.own 27 0),(9,.own 9 0)] [(2,26,qc6 b2),(9,26,qc6 b9),(27,46,aM 5620 r3.2),(5620,50,[aK r3.2.f_l])] ?_
  cases h
  exact hQ
 ·refine Wp.skip (kt [2,8,9] [2,9,27,5620] [(2,.own 2 0),(8,.own 27 0),(9,.own 9 0)] [(2,26,qc6 b2),(9,26,qc6 b9),(27,46,aM 5620 b27),(5620,50,[aK b27.f_l])] ?_)
  cases h
  exact hQ
def fG(n:Nat)(a0:Bs):Option (af×Int×Int) :=
 (kH n a0).bind fun r1 =>
 if(r1.2.2 != 0)=true then(some ((af.mk 0 [] [] []),r1.2.1,r1.2.2))
 else(if((List.length r1.1:Int)==0)=true then(some ((af.mk 0 [] [] []),0,0))
 else((bY n (ak.mk r1.1 0 0 0)).bind fun r2 =>
 (nC n (bif (r2.2.f_e==0) then(decide (r2.2.aC<(List.length r2.2.f_l:Int))) else false) (af.mk 0 [] [] []) r2.1 r2.2).bind fun o3 =>
 if(o3.f_e != 0)=true then(some ((af.mk 0 [] [] []),o3.mF,o3.f_e))
 else((jM n r2.1).bind fun r4 =>
 if(!r4)=true then(some ((af.mk 0 [] [] []),0,9))
 else(some (r2.1,0,0)))))
theorem vf(n:Nat)(a0:Bs)(r:af×Int×Int)(h:fG n a0=some r):bg Tryz.prog 9 [.str a0] (.tup [.agg (qc6 r.1),vi r.2.1,vi r.2.2]):=by
 unfold fG at h
 refine xo Tryz.f9 rfl fun F0 w0 _=>?_
 refine Wp.seq (rg [0,2] [2] [(0,.str a0),(2,.own 2 0)] [(2,26,[vi 0,.str [],.val (.slice none 0 0),.val (.slice none 0 0)])] (To.ah (Wp.seq ?_)))
 obtain⟨r1,hr1,h⟩:=aF h
 refine rb [] 1 ⟨[],[(1,12)],[.str a0],[],.tup [.row 1,vi r1.2.1,vi r1.2.2],[(1,50,[aK r1.1])]⟩ [2,5,6,7] [2,12] [(2,.own 2 0),(5,.row 12),(6,vi r1.2.1),(7,vi r1.2.2)] [(2,26,[vi 0,.str [],.val (.slice none 0 0),.val (.slice none 0 0)]),(12,50,[aK r1.1])] ((BD n a0 _ hr1)) (To.ah (Wp.seq (Wp.seq (rg [2,5,6,7,17] [2,12] [(2,.own 2 0),(5,.row 12),(6,vi r1.2.1),(7,vi r1.2.2),(17,vb (r1.2.2 != 0))] [(2,26,[vi 0,.str [],.val (.slice none 0 0),.val (.slice none 0 0)]),(12,50,[aK r1.1])] (To.ah (cn h (fun h=>?_) (fun h=>?_)))))))
 ·refine Wp.seq (rg [2,3,4] [2] [(2,.own 2 0),(3,vi r1.2.1),(4,vi r1.2.2)] [(2,26,[vi 0,.str [],.val (.slice none 0 0),.val (.slice none 0 0)])] (To.ah (Wp.ret (To.aO (To.weak (K':=[(2,.own 2 0),(3,vi r1.2.1),(4,vi r1.2.2)]) (L':=[(2,26,[vi 0,.str [],ls [],tn4 []])]) (.cons (.refl _) (.cons (.refl _) (.cons (.refl _) .nil))) (.cons (.cons (.refl _) (.cons (.refl _) (.cons (.zero _ _) (.cons (.ik _ _ _) .nil)))) .nil) ?_)))))
  cases h
  exact To.done hΓ (by kernel_rfl)
 ·refine Wp.skip (To.ah (Wp.seq (Wp.seq (rg [2,5,23] [2,12] [(2,.own 2 0),(5,.row 12),(23,vb ((List.length r1.1:Int)==0))] [(2,26,[vi 0,.str [],.val (.slice none 0 0),.val (.slice none 0 0)]),(12,50,[aK r1.1])] (To.ah (cn h (fun h=>?_) (fun h=>?_)))))))
  ·refine Wp.seq (rg [2,3,4] [2] [(2,.own 2 0),(3,vi 0),(4,vi 0)] [(2,26,[vi 0,.str [],.val (.slice none 0 0),.val (.slice none 0 0)])] (To.ah (Wp.ret (To.aO (To.weak (K':=[(2,.own 2 0),(3,vi 0),(4,vi 0)]) (L':=[(2,26,[vi 0,.str [],ls [],tn4 []])]) (.cons (.refl _) (.cons (.refl _) (.cons (.refl _) .nil))) (.cons (.cons (.refl _) (.cons (.refl _) (.cons (.zero _ _) (.cons (.ik _ _ _) .nil)))) .nil) ?_)))))
   cases h
   exact To.done hΓ (by kernel_rfl)
  ·refine Wp.skip (To.ah (Wp.seq (rg [2,8] [2,12,27] [(2,.own 2 0),(8,.own 27 0)] [(2,26,[vi 0,.str [],.val (.slice none 0 0),.val (.slice none 0 0)]),(12,50,[aK r1.1]),(27,46,[.row 12,vi 0,vi 0,vi 0])] (To.ah (Wp.seq ?_)))))
   obtain⟨r2,hr2,h⟩:=aF h
   refine rb [] 1 ⟨[(1000000,27),(1010000,12)],[(200,12),(1000000,27)],[.own 1000000 0],[(1000000,46,[.row 1010000,vi 0,vi 0,vi 0]),(1010000,50,[aK r1.1])],.agg (qc6 r2.1),[(200,50,[aK r2.2.f_l]),(1000000,46,aM 200 r2.2)]⟩ [2,8,9] [2,9,12,27] [(2,.own 2 0),(8,.own 27 0),(9,.own 9 0)] [(2,26,[vi 0,.str [],.val (.slice none 0 0),.val (.slice none 0 0)]),(9,26,qc6 r2.1),(12,50,[aK r2.2.f_l]),(27,46,aM 12 r2.2)] ((pY n (ak.mk r1.1 0 0 0) _ hr2)) (To.ah (Wp.seq (Wp.seq (Wp.eH hm hΓ [] [2,8,9,46] [2,9,12,27] (K':=[(2,.own 2 0),(8,.own 27 0),(9,.own 9 0),(46,vb (bif (r2.2.f_e==0) then(decide (r2.2.aC<(List.length r2.2.f_l:Int))) else false))]) (L':=[(2,26,[vi 0,.str [],.val (.slice none 0 0),.val (.slice none 0 0)]),(9,26,qc6 r2.1),(12,50,[aK r2.2.f_l]),(27,46,aM 12 r2.2)]) (ob:=[]) (by kernel_rfl) au.nil (To.ah ?_)))))
   obtain⟨o3,ho3,h⟩:=aF h
   refine nw [2,8,9,46] [2,9,12,27] [(12,5620)] [2,8,9,46] [2,9,27,5620] [(2,.own 2 0),(8,.own 27 0),(9,.own 9 0),(46,vb (bif (r2.2.f_e==0) then(decide (r2.2.aC<(List.length r2.2.f_l:Int))) else false))] [(2,26,[vi 0,.str [],.val (.slice none 0 0),.val (.slice none 0 0)]),(9,26,qc6 r2.1),(27,46,aM 5620 r2.2),(5620,50,[aK r2.2.f_l])] (Wp.weak (K':=[(2,.own 2 0),(8,.own 27 0),(9,.own 9 0),(46,vb (bif (r2.2.f_e==0) then(decide (r2.2.aC<(List.length r2.2.f_l:Int))) else false))]) (L':=[(2,26,[vi 0,.str [],ls [],tn4 []]),(9,26,qc6 r2.1),(27,46,aM 5620 r2.2),(5620,50,[aK r2.2.f_l])]) (.cons (.refl _) (.cons (.refl _) (.cons (.refl _) (.cons (.refl _) .nil)))) (.cons (.cons (.refl _) (.cons (.refl _) (.cons (.zero _ _) (.cons (.ik _ _ _) .nil)))) (.cons (.cons (.refl _) (.cons (.refl _) (.cons (.refl _) (.cons (.refl _) .nil)))) (.cons (.cons (.refl _) (.cons (.refl _) (.cons (.refl _) (.cons (.refl _) .nil)))) (.cons (.cons (.refl _) .nil) .nil)))) (yT n (bif (r2.2.f_e==0) then(decide (r2.2.aC<(List.length r2.2.f_l:Int))) else false) zx3 r2.1 r2.2 o3 ho3 (To.ah (Wp.seq (Wp.block (Wp.seq (rg [2,8,9,60] [2,9,27,5620] [(2,.own 2 0),(8,.own 27 0),(9,.own 9 0),(60,vb (o3.f_e != 0))] [(2,26,[vi 0,.str [],ls [],tn4 []]),(9,26,qc6 r2.1),(27,46,aM 5620 o3),(5620,50,[aK o3.f_l])] (To.ah (cn h (fun h=>?_) (fun h=>?_))))))))))
   ·refine Wp.seq (Wp.eH hm hΓ [] [2,3,4] [2] (K':=[(2,.own 2 0),(3,vi o3.mF),(4,vi o3.f_e)]) (L':=[(2,26,[vi 0,.str [],.val (.slice none 0 0),.val (.slice none 0 0)])]) (ob:=[]) (by kernel_rfl) au.nil (To.ah (Wp.ret (To.aU (To.aO (kt [2,3,4] [2] [(2,.own 2 0),(3,vi o3.mF),(4,vi o3.f_e)] [(2,26,[vi 0,.str [],.val (.slice none 0 0),.val (.slice none 0 0)])] (To.weak (K':=[(2,.own 2 0),(3,vi o3.mF),(4,vi o3.f_e)]) (L':=[(2,26,[vi 0,.str [],ls [],tn4 []])]) (.cons (.refl _) (.cons (.refl _) (.cons (.refl _) .nil))) (.cons (.cons (.refl _) (.cons (.refl _) (.cons (.zero _ _) (.cons (.ik _ _ _) .nil)))) .nil) ?_)))))))
    cases h
    exact To.done hΓ (by kernel_rfl)
   ·refine Wp.seq ?_
    obtain⟨r4,hr4,h⟩:=aF h
    refine rc [] 1 [2,9,75] [2,9] [(2,.own 2 0),(9,.own 9 0),(75,vb (!r4))] [(2,26,[vi 0,.str [],ls [],tn4 []]),(9,26,qc6 r2.1)] (wH n r2.1 _ hr4) (To.ah (cn h (fun h=>?_) (fun h=>?_)))
    ·refine Wp.seq (rg [2,3,4] [2] [(2,.own 2 0),(3,vi 0),(4,vi 9)] [(2,26,[vi 0,.str [],.val (.slice none 0 0),.val (.slice none 0 0)])] (To.ah (Wp.ret (To.aU (To.aO (To.weak (K':=[(2,.own 2 0),(3,vi 0),(4,vi 9)]) (L':=[(2,26,[vi 0,.str [],ls [],tn4 []])]) (.cons (.refl _) (.cons (.refl _) (.cons (.refl _) .nil))) (.cons (.cons (.refl _) (.cons (.refl _) (.cons (.zero _ _) (.cons (.ik _ _ _) .nil)))) .nil) ?_))))))
     cases h
     exact To.done hΓ (by kernel_rfl)
    ·refine Wp.skip (To.bf (To.ah (Wp.seq (rg [2,3,4] [2] [(2,.own 2 0),(3,vi 0),(4,vi 0)] [(2,26,qc6 r2.1)] (To.ah (Wp.ret ?_))))))
     cases h
     exact To.done hΓ (by kernel_rfl)
def kq(n:Nat)(v0:Bs)(v3:List (UInt8))(v13:Int)(v14:Int):Option ((List (UInt8))) :=
 if(decide (0<=v14/\v14<(List.length v0:Int)))=true then(aR ((bif ((((v0)[Int.toNat v14]?.getD 0).toNat:Int)==34) then true else((((v0)[Int.toNat v14]?.getD 0).toNat:Int)==92)):Bool) fun x1 =>
 if x1=true then(if(decide ((List.length v3+List.length ([92,((v0)[Int.toNat v14]?.getD 0)]:List (UInt8)))*(1+1)<=limit))=true then(some (v3++([92,((v0)[Int.toNat v14]?.getD 0)]:List (UInt8)))) else none)
 else(if((((v0)[Int.toNat v14]?.getD 0).toNat:Int)==10)=true then(if(decide ((List.length v3+List.length ([92,110]:List (UInt8)))*(1+1)<=limit))=true then(some (v3++([92,110]:List (UInt8)))) else none)
 else(if((((v0)[Int.toNat v14]?.getD 0).toNat:Int)==9)=true then(if(decide ((List.length v3+List.length ([92,116]:List (UInt8)))*(1+1)<=limit))=true then(some (v3++([92,116]:List (UInt8)))) else none)
 else(if(!(fN (((v0)[Int.toNat v14]?.getD 0).toNat:Int)))=true then(if(decide (0<=(4:Int)))=true then(if(decide (0<=(Int.fdiv (((v0)[Int.toNat v14]?.getD 0).toNat:Int) (2 ^ (min (Int.toNat 4) (IntKind.bits .u8))))/\(Int.fdiv (((v0)[Int.toNat v14]?.getD 0).toNat:Int) (2 ^ (min (Int.toNat 4) (IntKind.bits .u8))))<(List.length ([48,49,50,51,52,53,54,55,56,57,97,98,99,100,101,102]:Bs):Int)))=true then(if(decide (0<=(IntKind.wrap .u8 ((BitVec.ofInt (IntKind.bits .u8) (((v0)[Int.toNat v14]?.getD 0).toNat:Int) &&& BitVec.ofInt (IntKind.bits .u8) 15).toNat))/\(IntKind.wrap .u8 ((BitVec.ofInt (IntKind.bits .u8) (((v0)[Int.toNat v14]?.getD 0).toNat:Int) &&& BitVec.ofInt (IntKind.bits .u8) 15).toNat))<(List.length ([48,49,50,51,52,53,54,55,56,57,97,98,99,100,101,102]:Bs):Int)))=true then(if(decide ((List.length v3+List.length ([92,120,((([48,49,50,51,52,53,54,55,56,57,97,98,99,100,101,102]:Bs))[Int.toNat (Int.fdiv (((v0)[Int.toNat v14]?.getD 0).toNat:Int) (2 ^ (min (Int.toNat 4) (IntKind.bits .u8))))]?.getD 0),((([48,49,50,51,52,53,54,55,56,57,97,98,99,100,101,102]:Bs))[Int.toNat (IntKind.wrap .u8 ((BitVec.ofInt (IntKind.bits .u8) (((v0)[Int.toNat v14]?.getD 0).toNat:Int) &&& BitVec.ofInt (IntKind.bits .u8) 15).toNat))]?.getD 0)]:List (UInt8)))*(1+1)<=limit))=true then(aR ((v3++([92,120,((([48,49,50,51,52,53,54,55,56,57,97,98,99,100,101,102]:Bs))[Int.toNat (Int.fdiv (((v0)[Int.toNat v14]?.getD 0).toNat:Int) (2 ^ (min (Int.toNat 4) (IntKind.bits .u8))))]?.getD 0),((([48,49,50,51,52,53,54,55,56,57,97,98,99,100,101,102]:Bs))[Int.toNat (IntKind.wrap .u8 ((BitVec.ofInt (IntKind.bits .u8) (((v0)[Int.toNat v14]?.getD 0).toNat:Int) &&& BitVec.ofInt (IntKind.bits .u8) 15).toNat))]?.getD 0)]:List (UInt8))):List (UInt8)) fun x5 =>
 some x5) else none) else none) else none) else none)
 else(if(decide ((List.length v3+List.length ([((v0)[Int.toNat v14]?.getD 0)]:List (UInt8)))*(1+1)<=limit))=true then(some (v3++([((v0)[Int.toNat v14]?.getD 0)]:List (UInt8)))) else none))))) else none
abbrev zQ(x0:Bs)(x1:Int):=([92,((x0)[Int.toNat x1]?.getD 0)]:List (UInt8))
abbrev E2(x0:List (UInt8)):=(x0++([92,110]:List (UInt8)))
abbrev EU(x0:List (UInt8)):=(x0++([92,116]:List (UInt8)))
abbrev zT(x0:Bs)(x1:Int):=([92,120,((([48,49,50,51,52,53,54,55,56,57,97,98,99,100,101,102]:Bs))[Int.toNat (Int.fdiv (ex7 x0 x1) (2 ^ (min (Int.toNat 4) (IntKind.bits .u8))))]?.getD 0),((([48,49,50,51,52,53,54,55,56,57,97,98,99,100,101,102]:Bs))[Int.toNat (IntKind.wrap .u8 ((BitVec.ofInt (IntKind.bits .u8) (ex7 x0 x1) &&& BitVec.ofInt (IntKind.bits .u8) 15).toNat))]?.getD 0)]:List (UInt8))
abbrev NN(x0:Bs)(x1:Int):=([92,120,((([48,49,50,51,52,53,54,55,56,57,97,98,99,100,101,102]:Bs))[Int.toNat (Int.fdiv (ex7 x0 x1) (2 ^ (min (Int.toNat 4) (IntKind.bits .u8))))]?.getD 0),((([48,49,50,51,52,53,54,55,56,57,97,98,99,100,101,102]:Bs))[Int.toNat (IntKind.wrap .u8 ((BitVec.ofInt (IntKind.bits .u8) (ex7 x0 x1) &&& BitVec.ofInt (IntKind.bits .u8) 15).toNat))]?.getD 0)])
abbrev Jb(x0:Bs)(x1:Int):=(IntKind.wrap .u8 ((BitVec.ofInt (IntKind.bits .u8) (ex7 x0 x1) &&& BitVec.ofInt (IntKind.bits .u8) 15).toNat))
abbrev Kt(x0:Bs)(x1:Int):=(Int.fdiv (ex7 x0 x1) (2 ^ (min (Int.toNat 4) (IntKind.bits .u8))))
theorem yj(n:Nat)(v0:Bs)(v3:List (UInt8))(v13:Int)(v14:Int)(o:(List (UInt8)))(h:kq n v0 v3 v13 v14=some o)(hQ:To 65 F0 w0 [(0,.str v0),(3,.row 1003),(13,vi v13),(14,vi v14)] [(1003,5,[rc8 o])] .normal Q):Wp Tryz.prog 65 F0 w0 [(0,.str v0),(3,.row 1003),(13,vi v13),(14,vi v14)] [(1003,5,[rc8 v3])] (cA (cB (cB (cI (cI (cB (cA (cB (cB (cF Tryz.f42)))))))))) Q:=by
 unfold kq at h
 refine Wp.block (Wp.seq (rg [0,3,4,13,14] [1003] [(0,.str v0),(3,.row 1003),(4,vi v14),(13,vi v13),(14,vi v14)] [(1003,5,[rc8 v3])] (To.ah (Wp.seq ?_))))
 obtain⟨hc11,h⟩:=aL h
 refine r0 [0,3,5,13,14] [1003] [(0,.str v0),(3,.row 1003),(5,.val (.int .u8 (ex7 v0 v14))),(13,vi v13),(14,vi v14)] [(1003,5,[rc8 v3])] (au.cons hc11 au.nil) (To.ah (Wp.block (Wp.seq ?_)))
 obtain⟨x1,hx1,h⟩:=bI h
 refine rg [0,3,5,13,14,24] [1003] [(0,.str v0),(3,.row 1003),(5,.val (.int .u8 (ex7 v0 v14))),(13,vi v13),(14,vi v14),(24,vb (bif ((ex7 v0 v14)==34) then true else((ex7 v0 v14)==92)))] [(1003,5,[rc8 v3])] (To.eq (K':=[(0,.str v0),(3,.row 1003),(5,.val (.int .u8 (ex7 v0 v14))),(13,vi v13),(14,vi v14),(24,vb x1)]) (L':=[(1003,5,[rc8 v3])]) (by cases hx1;rfl) (by cases hx1;rfl) (To.ah (cn h (fun h=>?_) (fun h=>?_))))
 ·obtain⟨hc2,h⟩:=aL h
  refine rr [] [(2,rs9 ([92,((v0)[Int.toNat v14]?.getD 0)])),(3,rs9 (v3++(zQ v0 v14)))] [] [0,3,13,14] [34] [(0,.str v0),(3,.row 34),(13,vi v13),(14,vi v14)] [(34,5,[rc8 (v3++(zQ v0 v14))])] [(fD 1 [.val (.int .u8 92),.val (.int .u8 (ex7 v0 v14))] 2 (rs9 ([92,((v0)[Int.toNat v14]?.getD 0)]))/\aX (rs9 ([92,((v0)[Int.toNat v14]?.getD 0)]))),_,(iN 0 e8 v3 (List.flatMap e8 (zQ v0 v14)) (List.length (zQ v0 v14)) (rs9 (v3++(zQ v0 v14)))/\aX (rs9 (v3++(zQ v0 v14))))] (au.cons (jN (lg.cells (ns:=[92,(ex7 v0 v14)]) (.cons rfl (.cons rfl .nil))) rfl rfl (iJ _)) (au.cons hc2 (au.cons (iP rfl rfl (iJ _)) au.nil))) (To.bf (To.bf (nt [0,3,13,14] [34] [(34,1003)] [0,3,13,14] [1003] [(0,.str v0),(3,.row 1003),(13,vi v13),(14,vi v14)] [(1003,5,[rc8 (v3++(zQ v0 v14))])] ?_)))
  cases h
  exact hQ
 ·refine Wp.seq (rg [0,3,5,13,14,35] [1003] [(0,.str v0),(3,.row 1003),(5,.val (.int .u8 (ex7 v0 v14))),(13,vi v13),(14,vi v14),(35,vb ((ex7 v0 v14)==10))] [(1003,5,[rc8 v3])] (To.ah (cn h (fun h=>?_) (fun h=>?_))))
  ·obtain⟨hc3,h⟩:=aL h
   refine rr [] [(1,rs9 [92,110]),(2,rs9 (E2 v3))] [] [0,3,13,14] [40] [(0,.str v0),(3,.row 40),(13,vi v13),(14,vi v14)] [(40,5,[rc8 (E2 v3)])] [(fD 1 [.val (.int .u8 92),.val (.int .u8 110)] 2 (rs9 [92,110])/\aX (rs9 [92,110])),_,(iN 0 e8 v3 (List.flatMap e8 ([92,110]:List (UInt8))) (List.length ([92,110]:List (UInt8))) (rs9 (E2 v3))/\aX (rs9 (E2 v3)))] (au.cons (jN (lg.cells (ns:=[92,110]) (.cons rfl (.cons rfl .nil))) rfl rfl (iJ _)) (au.cons hc3 (au.cons (iP rfl rfl (iJ _)) au.nil))) (To.bf (To.bf (nt [0,3,13,14] [40] [(40,1003)] [0,3,13,14] [1003] [(0,.str v0),(3,.row 1003),(13,vi v13),(14,vi v14)] [(1003,5,[rc8 (E2 v3)])] ?_)))
   cases h
   exact hQ
  ·refine Wp.seq (rg [0,3,5,13,14,41] [1003] [(0,.str v0),(3,.row 1003),(5,.val (.int .u8 (ex7 v0 v14))),(13,vi v13),(14,vi v14),(41,vb ((ex7 v0 v14)==9))] [(1003,5,[rc8 v3])] (To.ah (cn h (fun h=>?_) (fun h=>?_))))
   ·obtain⟨hc4,h⟩:=aL h
    refine rr [] [(1,rs9 [92,116]),(2,rs9 (EU v3))] [] [0,3,13,14] [46] [(0,.str v0),(3,.row 46),(13,vi v13),(14,vi v14)] [(46,5,[rc8 (EU v3)])] [(fD 1 [.val (.int .u8 92),.val (.int .u8 116)] 2 (rs9 [92,116])/\aX (rs9 [92,116])),_,(iN 0 e8 v3 (List.flatMap e8 ([92,116]:List (UInt8))) (List.length ([92,116]:List (UInt8))) (rs9 (EU v3))/\aX (rs9 (EU v3)))] (au.cons (jN (lg.cells (ns:=[92,116]) (.cons rfl (.cons rfl .nil))) rfl rfl (iJ _)) (au.cons hc4 (au.cons (iP rfl rfl (iJ _)) au.nil))) (To.bf (To.bf (nt [0,3,13,14] [46] [(46,1003)] [0,3,13,14] [1003] [(0,.str v0),(3,.row 1003),(13,vi v13),(14,vi v14)] [(1003,5,[rc8 (EU v3)])] ?_)))
    cases h
    exact hQ
   ·refine Wp.seq (rc [] 1 [0,3,5,13,14,47] [1003] [(0,.str v0),(3,.row 1003),(5,.val (.int .u8 (ex7 v0 v14))),(13,vi v13),(14,vi v14),(47,vb (!(fN (ex7 v0 v14))))] [(1003,5,[rc8 v3])] (uK (ex7 v0 v14) _ rfl) (To.ah (cn h (fun h=>?_) (fun h=>?_))))
    ·obtain⟨hc6,h⟩:=aL h
     obtain⟨hc7,h⟩:=aL h
     obtain⟨hc8,h⟩:=aL h
     obtain⟨hc9,h⟩:=aL h
     obtain⟨x5,hx5,h⟩:=bI h
     refine Wp.eH hm hΓ [(7,rs9 (NN v0 v14)),(8,.row 59),(1008,rs9 (v3++(zT v0 v14)))] [0,3,13,14] [59] (K':=[(0,.str v0),(3,.row 59),(13,vi v13),(14,vi v14)]) (L':=[(59,5,[rc8 (v3++(zT v0 v14))])]) (ob:=[(decide (0<=(4:Int)))=true,(decide (0<=(Kt v0 v14)/\(Kt v0 v14)<(List.length ([48,49,50,51,52,53,54,55,56,57,97,98,99,100,101,102]:Bs):Int)))=true,(decide (0<=(Jb v0 v14)/\(Jb v0 v14)<(List.length ([48,49,50,51,52,53,54,55,56,57,97,98,99,100,101,102]:Bs):Int)))=true,(true=true->fD 1 [.val (.int .u8 92),.val (.int .u8 120),.val (.int .u8 (((([48,49,50,51,52,53,54,55,56,57,97,98,99,100,101,102]:Bs))[Int.toNat (Kt v0 v14)]?.getD 0).toNat:Int)),.val (.int .u8 (((([48,49,50,51,52,53,54,55,56,57,97,98,99,100,101,102]:Bs))[Int.toNat (Jb v0 v14)]?.getD 0).toNat:Int))] 4 (rs9 (NN v0 v14))/\aX (rs9 (NN v0 v14))),(decide ((List.length v3+List.length (zT v0 v14))*(1+1)<=limit))=true,(iN 0 e8 v3 (List.flatMap e8 (zT v0 v14)) (List.length (zT v0 v14)) (rs9 (v3++(zT v0 v14)))/\aX (rs9 (v3++(zT v0 v14))))]) (by kernel_rfl) (au.cons hc6 (au.cons hc7 (au.cons hc8 (au.cons (fun _=>jN (lg.cells (ns:=[92,120,(((([48,49,50,51,52,53,54,55,56,57,97,98,99,100,101,102]:Bs))[Int.toNat (Kt v0 v14)]?.getD 0).toNat:Int),(((([48,49,50,51,52,53,54,55,56,57,97,98,99,100,101,102]:Bs))[Int.toNat (Jb v0 v14)]?.getD 0).toNat:Int)]) (.cons rfl (.cons rfl (.cons rfl (.cons rfl .nil))))) rfl rfl (iJ _)) (au.cons hc9 (au.cons (iP rfl rfl (iJ _)) au.nil)))))) (To.eq (K':=[(0,.str v0),(3,.row 59),(13,vi v13),(14,vi v14)]) (L':=[(59,5,[rc8 x5])]) (by cases hx5;rfl) (by cases hx5;rfl) (To.bf (To.bf (nt [0,3,13,14] [59] [(59,1003)] [0,3,13,14] [1003] [(0,.str v0),(3,.row 1003),(13,vi v13),(14,vi v14)] [(1003,5,[rc8 x5])] ?_))))
     cases h
     exact hQ
    ·obtain⟨hc10,h⟩:=aL h
     refine rr [] [(2,rs9 (FI v0 v14)),(3,rs9 (v3++(ex8 v0 v14)))] [] [0,3,13,14] [23] [(0,.str v0),(3,.row 23),(13,vi v13),(14,vi v14)] [(23,5,[rc8 (v3++(ex8 v0 v14))])] [(Nz v0 v14),_,(Nr v3 v0 v14)] (au.cons (jN (lg.cells (ns:=[(ex7 v0 v14)]) (.cons rfl .nil)) rfl rfl (iJ _)) (au.cons hc10 (au.cons (iP rfl rfl (iJ _)) au.nil))) (To.bf (To.bf (nt [0,3,13,14] [23] [(23,1003)] [0,3,13,14] [1003] [(0,.str v0),(3,.row 1003),(13,vi v13),(14,vi v14)] [(1003,5,[rc8 (v3++(ex8 v0 v14))])] ?_)))
     cases h
     exact hQ
def jC(n:Nat)(v0:Bs)(v13:Int):Nat->(List (UInt8))->Int->Option ((List (UInt8)))
 |0,_,_=>none
 |k+1,v3,v14=>if(decide (v14<v13))=true then((kq n v0 v3 v13 v14).bind fun o1 =>
 jC n v0 v13 k o1 (IntKind.wrap .i64 (v14+1)))
 else some v3
theorem yl(n:Nat)(v0:Bs)(v13:Int)(k:Nat):∀(v3:List (UInt8))(v14:Int)(o:(List (UInt8))),jC n v0 v13 k v3 v14=some o->To 65 F0 w0 [(3,.row 1003)] [(1003,5,[rc8 o])] (.exit 0) Q->WL Tryz.prog 65 F0 w0 [(0,.str v0),(3,.row 1003),(13,vi v13),(14,vi v14)] [(1003,5,[rc8 v3])] (cI (cI (cB (cA (cB (cB (cF Tryz.f42))))))) Q:=by
 induction k with
 |zero=>intro v3 v14 o h;cases h
 |succ k ih =>
  intro v3 v14 o h hQ
  rw[jC] at h
  refine WL.round (Wp.seq (rg [0,3,13,14,15] [1003] [(0,.str v0),(3,.row 1003),(13,vi v13),(14,vi v14),(15,vb (decide (v14<v13)))] [(1003,5,[rc8 v3])] (To.ah (Wp.seq (cn h (fun h=>?_) (fun h=>?_))))))
  ·refine Wp.skip (To.ah (Wp.seq ?_))
   obtain⟨o1,ho1,h⟩:=aF h
   refine kw [0,3,13,14] [1003] [(0,.str v0),(3,.row 1003),(13,vi v13),(14,vi v14)] [(1003,5,[rc8 v3])] (yj n v0 v3 v13 v14 o1 ho1 (To.ah (rg [0,3,13,14] [1003] [(0,.str v0),(3,.row 1003),(13,vi v13),(14,vi (IntKind.wrap .i64 (v14+1)))] [(1003,5,[rc8 o1])] (kt [0,3,13,14] [1003] [(0,.str v0),(3,.row 1003),(13,vi v13),(14,vi (IntKind.wrap .i64 (v14+1)))] [(1003,5,[rc8 o1])] (To.again ?_)))))
   exact ih o1 (IntKind.wrap .i64 (v14+1)) _ h hQ
  ·refine Wp.exit (To.dE (To.dE (kt [3] [1003] [(3,.row 1003)] [(1003,5,[rc8 v3])] ?_)))
   cases h
   exact hQ
def jq(n:Nat)(a0:Bs):Option (Bs) :=
 if(decide (0<=(0:Int)/\(0:Int)<=(IntKind.wrap .i64 ((List.length a0:Int)+2))))=true then(if(decide ((IntKind.wrap .i64 ((List.length a0:Int)+2))*((1+1:Nat):Int)<=(limit:Int)))=true then(if(decide ((List.length ([]:List (UInt8))+List.length ([34]:List (UInt8)))*(1+1)<=limit))=true then((jC n a0 (List.length a0:Int) n (([]:List (UInt8))++([34]:List (UInt8))) 0).bind fun o1 =>
 if(decide ((List.length o1+List.length ([34]:List (UInt8)))*(1+1)<=limit))=true then(some (o1++([34]:List (UInt8)))) else none) else none) else none) else none
theorem mB(n:Nat)(a0:Bs)(r:Bs)(h:jq n a0=some r):bg Tryz.prog 42 [.str a0] (.str r):=by
 unfold jq at h
 refine xo Tryz.f42 rfl fun F0 w0 _=>?_
 refine Wp.seq (rg [0] [] [(0,.str a0)] [] (To.ah (Wp.seq ?_)))
 obtain⟨hc3,h⟩:=aL h
 obtain⟨hc4,h⟩:=aL h
 obtain⟨hc5,h⟩:=aL h
 refine rr [] [(3,rs9 []),(4,rs9 [34]),(5,rs9 (([]:List (UInt8))++([34]:List (UInt8))))] [] [0,3] [11] [(0,.str a0),(3,.row 11)] [(11,5,[rc8 (([]:List (UInt8))++([34]:List (UInt8)))])] [_,_,(A8 [.val (.int .u8 0)] (Int.toNat 0) (rs9 [])/\aX (rs9 [])),(fD 1 [.val (.int .u8 34)] 1 (rs9 [34])/\aX (rs9 [34])),_,(iN 0 e8 ([]:List (UInt8)) (List.flatMap e8 ([34]:List (UInt8))) (List.length ([34]:List (UInt8))) (rs9 (([]:List (UInt8))++([34]:List (UInt8))))/\aX (rs9 (([]:List (UInt8))++([34]:List (UInt8)))))] (au.cons hc3 (au.cons hc4 (au.cons (QO (by kernel_rfl) (iJ _)) (au.cons (jN (lg.cells (ns:=[34]) (.cons rfl .nil)) rfl rfl (iJ _)) (au.cons hc5 (au.cons (iP rfl rfl (iJ _)) au.nil)))))) (To.ah (Wp.seq (Wp.seq (rg [0,3,13,14] [11] [(0,.str a0),(3,.row 11),(13,vi (List.length a0:Int)),(14,vi 0)] [(11,5,[rc8 (([]:List (UInt8))++([34]:List (UInt8)))])] (To.ah (Wp.block ?_))))))
 obtain⟨o1,ho1,h⟩:=aF h
 refine nw [0,3,13,14] [11] [(11,1003)] [0,3,13,14] [1003] [(0,.str a0),(3,.row 1003),(13,vi (List.length a0:Int)),(14,vi 0)] [(1003,5,[rc8 (([]:List (UInt8))++([34]:List (UInt8)))])] (Wp.jB (yl n a0 (List.length a0:Int) n (([]:List (UInt8))++([34]:List (UInt8))) 0 o1 ho1 (To.iI (To.ah (Wp.seq ?_)))))
 obtain⟨hc2,h⟩:=aL h
 refine rr [] [(1,rs9 [34]),(2,rs9 (o1++([34]:List (UInt8)))),(3,.str (o1++([34]:List (UInt8))))] [] [2] [] [(2,.str (o1++([34]:List (UInt8))))] [] [(fD 1 [.val (.int .u8 34)] 1 (rs9 [34])/\aX (rs9 [34])),_,(iN 0 e8 o1 (List.flatMap e8 ([34]:List (UInt8))) (List.length ([34]:List (UInt8))) (rs9 (o1++([34]:List (UInt8))))/\aX (rs9 (o1++([34]:List (UInt8))))),(true=true->Bi (List.flatMap e8 (o1++([34]:List (UInt8)))) (.str (o1++([34]:List (UInt8)))))] (au.cons (jN (lg.cells (ns:=[34]) (.cons rfl .nil)) rfl rfl (iJ _)) (au.cons hc2 (au.cons (iP rfl rfl (iJ _)) (au.cons (fun _=>Ou (I7 _)) au.nil)))) (To.ah (Wp.ret ?_))
 cases h
 exact To.done hΓ (by kernel_rfl)
def qK(n:Nat)(a0:Bs)(a1:Bool):Option (Bs) :=
 ((if(a1==true)=true then kU n a0 else some false)).bind fun r1 =>
 ((if(((!a1)==true)&&((bif a1 then r1 else false)==false))=true then iz n a0 else some false)).bind fun r2 =>
 if(bif (bif a1 then r1 else false) then true else(bif (!a1) then r2 else false))=true then some a0
 else((jq n a0).bind fun r3 =>
 some r3)
theorem BP(n:Nat)(a0:Bs)(a1:Bool)(r:Bs)(h:qK n a0 a1=some r):bg Tryz.prog 51 [.str a0,vb a1] (.str r):=by
 unfold qK at h
 refine xo Tryz.f51 rfl fun F0 w0 _=>?_
 refine Wp.seq (rg [0,1] [] [(0,.str a0),(1,vb a1)] [] (To.ah (Wp.seq (Wp.seq ?_))))
 obtain⟨r1,hr1,h⟩:=aF h
 obtain⟨r2,hr2,h⟩:=aF h
 refine rr [] [(3,vb r1),(10,vb r2)] [] [0,17] [] [(0,.str a0),(17,vb (bif (bif a1 then r1 else false) then true else(bif (!a1) then r2 else false)))] [] [((a1==true)=true->CX Tryz.prog 83 [.str a0] (vb r1)),((((!a1)==true)&&((bif a1 then r1 else false)==false))=true->CX Tryz.prog 33 [.str a0] (vb r2))] (au.cons (fun hg=>cx (tq n a0 _ (jl hg hr1))) (au.cons (fun hg=>cx (nh n a0 _ (jl hg hr2))) au.nil)) (To.ah (cn h (fun h=>?_) (fun h=>?_)))
 ·refine Wp.seq (rg [4] [] [(4,.str a0)] [] (To.ah (Wp.ret (To.aO ?_))))
  cases h
  exact To.done hΓ (by kernel_rfl)
 ·refine Wp.skip (To.ah (Wp.seq ?_))
  obtain⟨r3,hr3,h⟩:=aF h
  refine rc [] 1 [4] [] [(4,.str r3)] [] (mB n a0 _ hr3) (To.ah (Wp.ret ?_))
  cases h
  exact To.done hΓ (by kernel_rfl)
def lU(n:Nat)(a0:Bs):Option (Bs) :=
 if(decide (List.length a0<4294967281))=true then(if(Lib.containsAny a0 [34,39])=true then((jq n a0).bind fun r2 =>
 some r2)
 else((qK n a0 false).bind fun r3 =>
 some r3)) else none
theorem vm(n:Nat)(a0:Bs)(r:Bs)(h:lU n a0=some r):bg Tryz.prog 21 [.str a0] (.str r):=by
 unfold lU at h
 refine xo Tryz.f21 rfl fun F0 w0 _=>?_
 refine Wp.seq (rg [0] [] [(0,.str a0)] [] (To.ah (Wp.seq (Wp.seq ?_))))
 obtain⟨u1,h⟩:=aL h
 refine rr [] [(1,vb (Lib.containsAny a0 [34,39]))] [] [0,4] [] [(0,.str a0),(4,vb (Lib.containsAny a0 [34,39]))] [] [(true=true->CX Tryz.prog 50 [.str a0,.str [34,39]] (vb (Lib.containsAny a0 [34,39])))] (au.cons (fun _=>cx (Sh.P5 u1)) au.nil) (To.ah (cn h (fun h=>?_) (fun h=>?_)))
 ·refine Wp.seq ?_
  obtain⟨r2,hr2,h⟩:=aF h
  refine rc [] 1 [2] [] [(2,.str r2)] [] (mB n a0 _ hr2) (To.ah (Wp.ret (To.aO ?_)))
  cases h
  exact To.done hΓ (by kernel_rfl)
 ·refine Wp.skip (To.ah (Wp.seq ?_))
  obtain⟨r3,hr3,h⟩:=aF h
  refine rc [] 1 [2] [] [(2,.str r3)] [] (BP n a0 false _ hr3) (To.ah (Wp.ret ?_))
  cases h
  exact To.done hΓ (by kernel_rfl)
def nu(n:Nat)(a0:af):Option (Bs×Bool) :=
 if(a0.aG==0)=true then(some (rM,true))
 else(if(a0.aG==1)=true then((lU n a0.av).bind fun r1 =>
 some (r1,true))
 else(if(decide ((List.length a0.aj:Int)>0))=true then(some ([],false))
 else(if(a0.aG==2)=true then(some ([91,93],true))
 else(some ([123,125],true)))))
theorem wG(n:Nat)(a0:af)(r:Bs×Bool)(h:nu n a0=some r):bg Tryz.prog 79 [.agg (qc6 a0)] (.tup [.str r.1,vb r.2]):=by
 unfold nu at h
 refine xo Tryz.f79 rfl fun F0 w0 _=>?_
 refine Wp.seq (rg [1] [1] [(1,.own 1 0)] [(1,26,qc6 a0)] (To.ah (Wp.seq (Wp.block (Wp.seq (rg [1,4] [1] [(1,.own 1 0),(4,vb (a0.aG==0))] [(1,26,qc6 a0)] (To.ah (cn h (fun h=>?_) (fun h=>?_)))))))))
 ·refine Wp.seq (rg [2,3] [] [(2,.str rM),(3,vb true)] [] (To.ah (Wp.ret (To.aU (To.aO ?_)))))
  cases h
  exact To.done hΓ (by kernel_rfl)
 ·refine Wp.seq (rg [1,8] [1] [(1,.own 1 0),(8,vb (a0.aG==1))] [(1,26,qc6 a0)] (To.ah (cn h (fun h=>?_) (fun h=>?_))))
  ·refine Wp.seq ?_
   obtain⟨r1,hr1,h⟩:=aF h
   refine rc [] 2 [2,3] [] [(2,.str r1),(3,vb true)] [] (vm n a0.av _ hr1) (To.ah (Wp.ret (To.aU (To.aO ?_))))
   cases h
   exact To.done hΓ (by kernel_rfl)
  ·refine Wp.seq (rg [1,15] [1] [(1,.own 1 0),(15,vb (decide ((List.length a0.aj:Int)>0)))] [(1,26,qc6 a0)] (To.ah (cn h (fun h=>?_) (fun h=>?_))))
   ·refine Wp.seq (rg [2,3] [] [(2,.str []),(3,vb false)] [] (To.ah (Wp.ret (To.aU (To.aO ?_)))))
    cases h
    exact To.done hΓ (by kernel_rfl)
   ·refine Wp.seq (rg [20] [] [(20,vb (a0.aG==2))] [] (To.ah (cn h (fun h=>?_) (fun h=>?_))))
    ·refine Wp.seq (rg [2,3] [] [(2,.str [91,93]),(3,vb true)] [] (To.ah (Wp.ret (To.aU (To.aO ?_)))))
     cases h
     exact To.done hΓ (by kernel_rfl)
    ·refine Wp.skip (To.bf (To.ah (Wp.seq (rg [2,3] [] [(2,.str [123,125]),(3,vb true)] [] (To.ah (Wp.ret ?_))))))
     cases h
     exact To.done hΓ (by kernel_rfl)
def tQ(n:Nat)(a0:Bs):Option (Bs) :=
 if(a0==[60,60])=true then((jq n a0).bind fun r1 =>
 some r1)
 else((lU n a0).bind fun r2 =>
 some r2)
theorem GU(n:Nat)(a0:Bs)(r:Bs)(h:tQ n a0=some r):bg Tryz.prog 80 [.str a0] (.str r):=by
 unfold tQ at h
 refine xo Tryz.f80 rfl fun F0 w0 _=>?_
 refine Wp.seq (rg [0] [] [(0,.str a0)] [] (To.ah (Wp.seq (Wp.seq (rg [0,4] [] [(0,.str a0),(4,vb (a0==[60,60]))] [] (To.ah (cn h (fun h=>?_) (fun h=>?_))))))))
 ·refine Wp.seq ?_
  obtain⟨r1,hr1,h⟩:=aF h
  refine rc [] 1 [2] [] [(2,.str r1)] [] (mB n a0 _ hr1) (To.ah (Wp.ret (To.aO ?_)))
  cases h
  exact To.done hΓ (by kernel_rfl)
 ·refine Wp.skip (To.ah (Wp.seq ?_))
  obtain⟨r2,hr2,h⟩:=aF h
  refine rc [] 1 [2] [] [(2,.str r2)] [] (vm n a0 _ hr2) (To.ah (Wp.ret ?_))
  cases h
  exact To.done hΓ (by kernel_rfl)
end Go.Proofs.YtefojkdckfidcaaGreatDoor.M
