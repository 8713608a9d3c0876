import Derived.Test.YtaecmkldkljioaaGreatQM35h
set_option linter.all false
namespace Go.Proofs.YtaecmkldkljioaaGreat.M
open Go.RowKit Go.Proofs.YtaecmkldkljioaaGreat.RX
set_option maxRecDepth 100000
theorem ok_law35_step__o0_j1 (n:Nat) (v21:Int) (b4:S_ref35_Host) (b5:S_law35_Deed) (b6:S_ref35_Host) (b1000000:S_host_Host) (o:Sum (S_ref35_Host × S_host_Host) (Bool × S_ref35_Host × S_host_Host)) (h:law35_step__o0_j1 n v21 b4 b5 b6 b1000000 = some o) {F0:Fz} {w0:Pt Tryz.prog} {Q:Exit → Act → World → Prop} (hQ:(Sum.elim (fun s=>To 125 F0 w0 [(0,.own 1000000 0),(4,.own 4 0),(5,.own 5 0),(6,.own 6 0)] ((4,89,(E_ref35_Host b4))::(5,75,(E_law35_Deed b5))::(6,89,qc47 s.1)::qh39 1000000 1010060 1010061 1010062 1010063 s.2) .normal Q) (fun s=>To 125 F0 w0 [(6,.own 6 0),(7,vb s.1)] ((6,89,qc47 s.2.1)::qh39 1000000 1010060 1010061 1010062 1010063 s.2.2) .ret Q)) o):Wp Tryz.prog 125 F0 w0 [(0,.own 1000000 0),(4,.own 4 0),(5,.own 5 0),(6,.own 6 0),(21,vi v21)] (ex65 b4 b5 b6 b1000000) (cB (cA (cB (cF Tryz.f42)))) Q:=by
 unfold law35_step__o0_j1 at h
 refine Wp.block (Wp.seq (rg [0,4,5,6,21,22] [4,5,6,1000000,1010060,1010061,1010062,1010063] [(0,.own 1000000 0),(4,.own 4 0),(5,.own 5 0),(6,.own 6 0),(21,vi v21),(22,vb (v21 == 5))] (ex65 b4 b5 b6 b1000000) (To.thenN (cn h (fun h=>?_) (fun h=>?_)))))
 ·refine Wp.seq ?_
  obtain ⟨r1,hr1,h⟩:=bind_of h
  refine rc [] 3 [0,5,6,8,9] [5,6,8,1000000,1010060,1010061,1010062,1010063] [(0,.own 1000000 0),(5,.own 5 0),(6,.own 6 0),(8,.own 8 0),(9,rs49 r1.2)] ((5,75,(E_law35_Deed b5))::(6,89,(E_ref35_Host b6))::(8,89,(E_ref35_Host r1.1))::qh39 1000000 1010060 1010061 1010062 1010063 b1000000) (ok_ref35_Tick n b4 b5.f_N _ hr1) (To.thenN (Wp.seq ?_))
  obtain ⟨r2,hr2,h⟩:=bind_of h
  obtain ⟨r3,hr3,h⟩:=bind_of h
  obtain ⟨r4,hr4,h⟩:=bind_of h
  refine Wp.regionO hm hΓ [] [(5,rs49 r3),(7,vb r4)] [(4,⟨[(1000000,1000000),(1010060,1010060),(1010061,1010061),(1010062,1010062),(1010063,1010063)],[(1000000,1000000),(1010060,1010060),(1010061,1010061),(1010062,1010062),(1010063,1010063)],[.own 1000000 0,vi b5.f_N],(ex38 b1000000),rs43 r2.1,(qh39 1000000 1010060 1010061 1010062 1010063 r2.2)⟩)] [0,5,6,7,8,9,31,32,33,34,35,36,37,38] [5,6,8,1000000,1010060,1010061,1010062,1010063] [6,7] [6,1000000,1010060,1010061,1010062,1010063] (K':=[(6,.own 6 0),(7,vb r4)]) (L':=((6,89,(E_ref35_Host r1.1))::qh39 1000000 1010060 1010061 1010062 1010063 r2.2)) (ob:=[CbOb (CallsB Tryz.prog) 38 [.own 1000000 0,vi b5.f_N] (ex39 b1000000) ⟨[(1000000,1000000),(1010060,1010060),(1010061,1010061),(1010062,1010062),(1010063,1010063)],[(1000000,1000000),(1010060,1010060),(1010061,1010061),(1010062,1010062),(1010063,1010063)],[.own 1000000 0,vi b5.f_N],(ex38 b1000000),rs43 r2.1,(qh39 1000000 1010060 1010061 1010062 1010063 r2.2)⟩,(true = true → CX Tryz.prog 37 [rs43 r2.1] (rs49 r3)),(true = true → CX Tryz.prog 39 [rs49 r3,rs49 r1.2] (vb r4))]) (by kernel_rfl) (by kernel_rfl) (AllP.cons (⟨(ok_host_Host_Tick__o0 n b5.f_N b1000000 _ hr2),by kernel_rfl,by kernel_rfl⟩) (AllP.cons (fun _=>cx (ok_law35_Events n r2.1 _ hr3)) (AllP.cons (fun _=>cx (ok_ref35_Same n r3 r1.2 _ hr4)) AllP.nil))) ?_
  refine To.thenN (Wp.ret (To.blockR (kt [6,7] [6,1000000,1010060,1010061,1010062,1010063] [(6,.own 6 0),(7,vb r4)] ((6,89,(E_ref35_Host r1.1))::qh39 1000000 1010060 1010061 1010062 1010063 r2.2) ?_)))
  cases h
  exact hQ
 ·refine Wp.seq (rg [0,4,5,6,21,39] [4,5,6,1000000,1010060,1010061,1010062,1010063] [(0,.own 1000000 0),(4,.own 4 0),(5,.own 5 0),(6,.own 6 0),(21,vi v21),(39,vb (v21 == 6))] (ex65 b4 b5 b6 b1000000) (To.thenN (cn h (fun h=>?_) (fun h=>?_))))
  ·refine Wp.seq ?_
   obtain ⟨r5,hr5,h⟩:=bind_of h
   refine rc [] 5 [0,5,6,10,11] [5,6,10,1000000,1010060,1010061,1010062,1010063] [(0,.own 1000000 0),(5,.own 5 0),(6,.own 6 0),(10,.own 10 0),(11,rs49 r5.2)] ((5,75,(E_law35_Deed b5))::(6,89,(E_ref35_Host b6))::(10,89,(E_ref35_Host r5.1))::qh39 1000000 1010060 1010061 1010062 1010063 b1000000) (ok_ref35_Exit n b4 b5.f_N b5.f_M _ hr5) (To.thenN (Wp.seq ?_))
   obtain ⟨r6,hr6,h⟩:=bind_of h
   obtain ⟨r7,hr7,h⟩:=bind_of h
   obtain ⟨r8,hr8,h⟩:=bind_of h
   refine Wp.regionO hm hΓ [] [(7,rs49 r7),(9,vb r8)] [(6,⟨[(1000000,1000000),(1010060,1010060),(1010061,1010061),(1010062,1010062),(1010063,1010063)],[(1000000,1000000),(1010060,1010060),(1010061,1010061),(1010062,1010062),(1010063,1010063)],[.own 1000000 0,vi b5.f_N,vi b5.f_M],(ex38 b1000000),rs43 r6.1,(qh39 1000000 1010060 1010061 1010062 1010063 r6.2)⟩)] [0,5,6,7,10,11,50,51,52,53,54,55,56,57,58,59] [5,6,10,1000000,1010060,1010061,1010062,1010063] [6,7] [6,1000000,1010060,1010061,1010062,1010063] (K':=[(6,.own 6 0),(7,vb r8)]) (L':=((6,89,(E_ref35_Host r5.1))::qh39 1000000 1010060 1010061 1010062 1010063 r6.2)) (ob:=[CbOb (CallsB Tryz.prog) 47 [.own 1000000 0,vi b5.f_N,vi b5.f_M] (ex39 b1000000) ⟨[(1000000,1000000),(1010060,1010060),(1010061,1010061),(1010062,1010062),(1010063,1010063)],[(1000000,1000000),(1010060,1010060),(1010061,1010061),(1010062,1010062),(1010063,1010063)],[.own 1000000 0,vi b5.f_N,vi b5.f_M],(ex38 b1000000),rs43 r6.1,(qh39 1000000 1010060 1010061 1010062 1010063 r6.2)⟩,(true = true → CX Tryz.prog 37 [rs43 r6.1] (rs49 r7)),(true = true → CX Tryz.prog 39 [rs49 r7,rs49 r5.2] (vb r8))]) (by kernel_rfl) (by kernel_rfl) (AllP.cons (⟨(ok_host_Host_Exit__o0 n b5.f_N b5.f_M b1000000 _ hr6),by kernel_rfl,by kernel_rfl⟩) (AllP.cons (fun _=>cx (ok_law35_Events n r6.1 _ hr7)) (AllP.cons (fun _=>cx (ok_ref35_Same n r7 r5.2 _ hr8)) AllP.nil))) ?_
   refine To.thenN (Wp.ret (To.blockR (kt [6,7] [6,1000000,1010060,1010061,1010062,1010063] [(6,.own 6 0),(7,vb r8)] ((6,89,(E_ref35_Host r5.1))::qh39 1000000 1010060 1010061 1010062 1010063 r6.2) ?_)))
   cases h
   exact hQ
  ·refine Wp.seq (Wp.seq (rg [0,4,5,6,21,60] [4,5,6,1000000,1010060,1010061,1010062,1010063] [(0,.own 1000000 0),(4,.own 4 0),(5,.own 5 0),(6,.own 6 0),(21,vi v21),(60,vb (v21 == 7))] (ex65 b4 b5 b6 b1000000) (To.thenN ?_)))
   obtain ⟨o9,ho9,h⟩:=bind_of h
   refine kw [0,4,5,6,21,60] [4,5,6,1000000,1010060,1010061,1010062,1010063] [(0,.own 1000000 0),(4,.own 4 0),(5,.own 5 0),(6,.own 6 0),(21,vi v21),(60,vb (v21 == 7))] (ex65 b4 b5 b6 b1000000) (ok_law35_step__o0_j2 n v21 (v21 == 7) b4 b5 b6 b1000000 o9 ho9 (To.thenN (cn h (fun h=>?_) (fun h=>?_))))
   ·refine Wp.seq ?_
    obtain ⟨hc13,h⟩:=chk_of h
    obtain ⟨r10,hr10,h⟩:=bind_of h
    refine rr [] [(7,.tup [.agg (qc47 r10.1),vb r10.2])] [] [0,5,6,12,13] [5,6,12,1000000,1010060,1010061,1010062,1010063] [(0,.own 1000000 0),(5,.own 5 0),(6,.own 6 0),(12,.own 12 0),(13,vb r10.2)] ((5,75,(E_law35_Deed b5))::(6,89,(E_ref35_Host b6))::(12,89,(E_ref35_Host r10.1))::qh39 1000000 1010060 1010061 1010062 1010063 b1000000) [_,_] (AllP.cons hc13 (AllP.cons (c1 (ok_ref35_Sick n b4 b5.f_N ((Int.tmod b5.f_Kind 10) == 7) _ hr10)) AllP.nil)) (To.thenN (Wp.seq ?_))
    obtain ⟨hc12,h⟩:=chk_of h
    obtain ⟨r11,hr11,h⟩:=bind_of h
    refine Wp.regionO hm hΓ [] [] [(8,⟨[(1000000,1000000),(1010060,1010060),(1010061,1010061),(1010062,1010062),(1010063,1010063)],[(1000000,1000000),(1010060,1010060),(1010061,1010061),(1010062,1010062),(1010063,1010063)],[.own 1000000 0,vi b5.f_N,vb ((Int.tmod b5.f_Kind 10) == 7)],(ex38 b1000000),vb r11.1,(qh39 1000000 1010060 1010061 1010062 1010063 r11.2)⟩)] [0,5,6,7,12,13,74,75,76,77,78,79,80,81,82,83,84] [5,6,12,1000000,1010060,1010061,1010062,1010063] [6,7] [6,1000000,1010060,1010061,1010062,1010063] (K':=[(6,.own 6 0),(7,vb (r11.1 == r10.2))]) (L':=((6,89,(E_ref35_Host r10.1))::qh39 1000000 1010060 1010061 1010062 1010063 r11.2)) (ob:=[((10 != 0)) = true,CbOb (CallsB Tryz.prog) 46 [.own 1000000 0,vi b5.f_N,vb ((Int.tmod b5.f_Kind 10) == 7)] (ex39 b1000000) ⟨[(1000000,1000000),(1010060,1010060),(1010061,1010061),(1010062,1010062),(1010063,1010063)],[(1000000,1000000),(1010060,1010060),(1010061,1010061),(1010062,1010062),(1010063,1010063)],[.own 1000000 0,vi b5.f_N,vb ((Int.tmod b5.f_Kind 10) == 7)],(ex38 b1000000),vb r11.1,(qh39 1000000 1010060 1010061 1010062 1010063 r11.2)⟩]) (by kernel_rfl) (by kernel_rfl) (AllP.cons hc12 (AllP.cons (⟨(ok_host_Host_Sick__o0 n b5.f_N ((Int.tmod b5.f_Kind 10) == 7) b1000000 _ hr11),by kernel_rfl,by kernel_rfl⟩) AllP.nil)) ?_
    refine To.thenN (Wp.ret (To.blockR (kt [6,7] [6,1000000,1010060,1010061,1010062,1010063] [(6,.own 6 0),(7,vb (r11.1 == r10.2))] ((6,89,(E_ref35_Host r10.1))::qh39 1000000 1010060 1010061 1010062 1010063 r11.2) ?_)))
    cases h
    exact hQ
   ·refine Wp.seq (rg [0,4,5,6,85] [4,5,6,1000000,1010060,1010061,1010062,1010063] [(0,.own 1000000 0),(4,.own 4 0),(5,.own 5 0),(6,.own 6 0),(85,vb (v21 == 9))] (ex65 b4 b5 b6 b1000000) (To.thenN (cn h (fun h=>?_) (fun h=>?_))))
    ·refine Wp.seq ?_
     obtain ⟨r14,hr14,h⟩:=bind_of h
     refine rb [] 6 ⟨[(1000000,1000000),(1010060,1010060),(1010061,1010061),(1010062,1010062),(1010063,1010063)],[(1000000,1000000),(1010060,1010060),(1010061,1010061),(1010062,1010062),(1010063,1010063)],[.own 1000000 0,.agg [vi b5.f_N,vi b5.f_M]],(ex38 b1000000),.tup [],(qh39 1000000 1010060 1010061 1010062 1010063 r14)⟩ [4,5,6] [4,5,6,1000000,1010060,1010061,1010062,1010063] [(4,.own 4 0),(5,.own 5 0),(6,.own 6 0)] ((4,89,(E_ref35_Host b4))::(5,75,(E_law35_Deed b5))::(6,89,(E_ref35_Host b6))::qh39 1000000 1010060 1010061 1010062 1010063 r14) ((ok_host_Host_Fault__o0 n (S_fault_Gap.mk b5.f_N b5.f_M) b1000000 _ hr14)) (To.thenN (Wp.seq ?_))
     obtain ⟨r15,hr15,h⟩:=bind_of h
     refine rc [] 6 [6,7] [6,1000000,1010060,1010061,1010062,1010063] [(6,.own 6 0),(7,vb true)] ((6,89,(E_ref35_Host r15))::qh39 1000000 1010060 1010061 1010062 1010063 r14) (ok_ref35_Fault n b4 (S_fault_Gap.mk b5.f_N b5.f_M) _ hr15) (To.thenN (Wp.ret (To.blockR ?_)))
     cases h
     exact hQ
    ·refine Wp.skip (To.blockN (kt [0,4,5,6] [4,5,6,1000000,1010060,1010061,1010062,1010063] [(0,.own 1000000 0),(4,.own 4 0),(5,.own 5 0),(6,.own 6 0)] (ex65 b4 b5 b6 b1000000) ?_))
     cases h
     exact hQ
def law35_step__o0 (n:Nat) (a1:S_ref35_Host) (a2:S_law35_Deed) (h0:S_host_Host):Option (S_ref35_Host × Bool × S_host_Host) :=
 if ((10 != 0)) = true then ((law35_step__o0_j1 n (Int.tmod a2.f_Kind 10) a1 a2 (S_ref35_Host.mk (S_ref33_Store.mk [] [] [] 0) (S_ref34_Plan.mk [] 0) 0) h0).bind fun o1 =>
 (Sum.elim (fun o1=>(host_Host_Call__o0 n a2.f_Call o1.2).bind fun r2 =>
 (ref35_Call n a1 a2.f_Call).bind fun r3 =>
 some (r3.1,(bif (r2.1 == r3.2.1) then (r2.2.1 == r3.2.2) else false),r2.2.2)) (fun o1=>some (o1.2.1,o1.1,o1.2.2))) o1) else none
abbrev qc55 (x:S_law35_Deed):List D:=[vi x.f_Kind,vi x.f_N,vi x.f_M,vi x.f_Call.f_Kind,.str x.f_Call.f_Name,vi x.f_Call.f_Id,.str x.f_Call.f_Spec.f_Name,.str x.f_Call.f_Spec.f_Project,.str x.f_Call.f_Spec.f_Service,vi x.f_Call.f_Spec.f_Number,.str x.f_Call.f_Spec.f_Hash,ls x.f_Call.f_Spec.f_Nets,ls x.f_Call.f_Spec.f_Vols,.str x.f_Call.f_Spec.f_Health.f_Test,vi x.f_Call.f_Spec.f_Health.f_Every,vi x.f_Call.f_Spec.f_Health.f_Start,vi x.f_Call.f_Spec.f_Health.f_Retries,vi x.f_Call.f_Spec.f_Restart,vi x.f_Call.f_Spec.f_Tries]
theorem ok_law35_step__o0 (n:Nat) (a1:S_ref35_Host) (a2:S_law35_Deed) (h0:S_host_Host) (r:S_ref35_Host × Bool × S_host_Host) (h:law35_step__o0 n a1 a2 h0 = some r):CallsB Tryz.prog 42 [.own 1000000 0,.agg (qc47 a1),.agg (qc55 a2)] (qh39 1000000 1010060 1010061 1010062 1010063 h0) (.tup [.agg (qc47 r.1),vb r.2.1]) (qh39 1000000 1010060 1010061 1010062 1010063 r.2.2):=by
 unfold law35_step__o0 at h
 refine bo Tryz.f42 rfl fun F0 w0=>?_
 refine Wp.seq (rg [0,4,5,6] [4,5,6,1000000,1010060,1010061,1010062,1010063] [(0,.own 1000000 0),(4,.own 4 0),(5,.own 5 0),(6,.own 6 0)] ((4,89,(E_ref35_Host a1))::(5,75,(E_law35_Deed a2))::(6,89,[.val (.slice none 0 0),.val (.slice none 0 0),.val (.slice none 0 0),vi 0,.val (.slice none 0 0),vi 0,vi 0])::qh39 1000000 1010060 1010061 1010062 1010063 h0) (To.thenN (Wp.seq (Wp.seq ?_))))
 obtain ⟨hc4,h⟩:=chk_of h
 refine r0 [0,4,5,6,21] [4,5,6,1000000,1010060,1010061,1010062,1010063] [(0,.own 1000000 0),(4,.own 4 0),(5,.own 5 0),(6,.own 6 0),(21,vi (Int.tmod a2.f_Kind 10))] ((4,89,(E_ref35_Host a1))::(5,75,(E_law35_Deed a2))::(6,89,[.val (.slice none 0 0),.val (.slice none 0 0),.val (.slice none 0 0),vi 0,.val (.slice none 0 0),vi 0,vi 0])::qh39 1000000 1010060 1010061 1010062 1010063 h0) (AllP.cons hc4 AllP.nil) (To.thenN ?_)
 obtain ⟨o1,ho1,h⟩:=bind_of h
 refine kw [0,4,5,6,21] [4,5,6,1000000,1010060,1010061,1010062,1010063] [(0,.own 1000000 0),(4,.own 4 0),(5,.own 5 0),(6,.own 6 0),(21,vi (Int.tmod a2.f_Kind 10))] ((4,89,(E_ref35_Host a1))::(5,75,(E_law35_Deed a2))::(6,89,[.val (.slice none 0 0),.val (.slice none 0 0),.val (.slice none 0 0),vi 0,.val (.slice none 0 0),vi 0,vi 0])::qh39 1000000 1010060 1010061 1010062 1010063 h0) (Wp.weak (K':=[(0,.own 1000000 0),(4,.own 4 0),(5,.own 5 0),(6,.own 6 0),(21,vi (Int.tmod a2.f_Kind 10))]) (L':=((4,89,(E_ref35_Host a1))::(5,75,(E_law35_Deed a2))::(6,89,[rs19 [],rs16 [],rs16 [],vi 0,rs32 [],vi 0,vi 0])::qh39 1000000 1010060 1010061 1010062 1010063 h0)) (.cons (.refl _) (.cons (.refl _) (.cons (.refl _) (.cons (.refl _) (.cons (.refl _) .nil))))) (.cons (.cons (.refl _) (.cons (.refl _) (.cons (.refl _) (.cons (.refl _) (.cons (.refl _) (.cons (.refl _) (.cons (.refl _) .nil))))))) (.cons (.cons (.refl _) (.cons (.refl _) (.cons (.refl _) (.cons (.refl _) (.cons (.refl _) (.cons (.refl _) (.cons (.refl _) (.cons (.refl _) (.cons (.refl _) (.cons (.refl _) (.cons (.refl _) (.cons (.refl _) (.cons (.refl _) (.cons (.refl _) (.cons (.refl _) (.cons (.refl _) (.cons (.refl _) (.cons (.refl _) (.cons (.refl _) .nil))))))))))))))))))) (.cons (.cons (.zero _ _) (.cons (.zero _ _) (.cons (.zero _ _) (.cons (.refl _) (.cons (.zero _ _) (.cons (.refl _) (.cons (.refl _) .nil))))))) (.cons (.cons (.refl _) (.cons (.refl _) (.cons (.refl _) (.cons (.refl _) .nil)))) (.cons (.cons (.refl _) (.cons (.refl _) (.cons (.refl _) (.cons (.refl _) .nil)))) (.cons (.cons (.refl _) .nil) (.cons (.cons (.refl _) .nil) (.cons (.cons (.refl _) .nil) .nil)))))))) (ok_law35_step__o0_j1 n (Int.tmod a2.f_Kind 10) a1 a2 (S_ref35_Host.mk zx22 zx50 0) h0 o1 ho1 ?_))
 rcases o1 with o1 | o1
 ·replace h:=sum_l h
  refine To.thenN (Wp.seq ?_)
  obtain ⟨r2,hr2,h⟩:=bind_of h
  refine rb [] 3 ⟨[(1000000,1000000),(1010060,1010060),(1010061,1010061),(1010062,1010062),(1010063,1010063)],[(1000000,1000000),(1010060,1010060),(1010061,1010061),(1010062,1010062),(1010063,1010063)],[.own 1000000 0,.agg [vi a2.f_Call.f_Kind,.str a2.f_Call.f_Name,vi a2.f_Call.f_Id,.str a2.f_Call.f_Spec.f_Name,.str a2.f_Call.f_Spec.f_Project,.str a2.f_Call.f_Spec.f_Service,vi a2.f_Call.f_Spec.f_Number,.str a2.f_Call.f_Spec.f_Hash,ls a2.f_Call.f_Spec.f_Nets,ls a2.f_Call.f_Spec.f_Vols,.str a2.f_Call.f_Spec.f_Health.f_Test,vi a2.f_Call.f_Spec.f_Health.f_Every,vi a2.f_Call.f_Spec.f_Health.f_Start,vi a2.f_Call.f_Spec.f_Health.f_Retries,vi a2.f_Call.f_Spec.f_Restart,vi a2.f_Call.f_Spec.f_Tries]],(qh39 1000000 1010060 1010061 1010062 1010063 o1.2),.tup [vi r2.1,vi r2.2.1],(qh39 1000000 1010060 1010061 1010062 1010063 r2.2.2)⟩ [4,5,6,14,15] [4,5,6,1000000,1010060,1010061,1010062,1010063] [(4,.own 4 0),(5,.own 5 0),(6,.own 6 0),(14,vi r2.1),(15,vi r2.2.1)] ((4,89,(E_ref35_Host a1))::(5,75,(E_law35_Deed a2))::(6,89,(E_ref35_Host o1.1))::qh39 1000000 1010060 1010061 1010062 1010063 r2.2.2) ((ok_host_Host_Call__o0 n a2.f_Call o1.2 _ hr2)) (To.thenN (Wp.seq ?_))
  obtain ⟨r3,hr3,h⟩:=bind_of h
  refine rc [] 3 [6,14,15,16,17,18] [6,16,1000000,1010060,1010061,1010062,1010063] [(6,.own 6 0),(14,vi r2.1),(15,vi r2.2.1),(16,.own 16 0),(17,vi r3.2.1),(18,vi r3.2.2)] ((6,89,(E_ref35_Host o1.1))::(16,89,(E_ref35_Host r3.1))::qh39 1000000 1010060 1010061 1010062 1010063 r2.2.2) (ok_ref35_Call n a1 a2.f_Call _ hr3) (To.thenN (Wp.seq (rg [6,7] [6,1000000,1010060,1010061,1010062,1010063] [(6,.own 6 0),(7,vb (bif (r2.1 == r3.2.1) then (r2.2.1 == r3.2.2) else false))] ((6,89,(E_ref35_Host r3.1))::qh39 1000000 1010060 1010061 1010062 1010063 r2.2.2) (To.thenN (Wp.ret ?_)))))
  cases h
  exact To.doneB hΓ [1000000,1010060,1010061,1010062,1010063] (by kernel_rfl) (by kernel_rfl)
 ·replace h:=sum_r h
  refine To.thenR ?_
  cases h
  exact To.doneB hΓ [1000000,1010060,1010061,1010062,1010063] (by kernel_rfl) (by kernel_rfl)
def law35_played_o_l1 (n:Nat) (v1:List (S_law35_Deed)) (b6:S_ref35_Host):Nat → Int → S_host_Host → Option (S_host_Host)
 | 0,_,_=>none
 | k + 1,v7,b10=>if (decide (v7 < (List.length v1:Int))) = true then (if (decide (0 ≤ v7 ∧ v7 < (List.length v1:Int))) = true then ((law35_step__o0 n b6 ((v1)[Int.toNat v7]?.getD Z_law35_Deed) b10).bind fun r3 =>
 law35_played_o_l1 n v1 b6 k (IntKind.wrap .i64 (v7 + 1)) r3.2.2) else none)
 else some b10
theorem ok_law35_played_o_l1 (n:Nat) (v1:List (S_law35_Deed)) (b6:S_ref35_Host) {F0:Fz} {w0:Pt Tryz.prog} {Q:Exit → Act → World → Prop} (k:Nat):∀ (v7:Int) (b10:S_host_Host) (o:S_host_Host),law35_played_o_l1 n v1 b6 k v7 b10 = some o → To 26 F0 w0 [(5,.own 10 0)] (qh39 10 700402 700403 700404 700405 o) (.exit 0) Q → WL Tryz.prog 26 F0 w0 [(1,rs45 v1),(5,.own 10 0),(6,.own 6 0),(7,vi v7)] ((6,89,(E_ref35_Host b6))::qh39 10 700402 700403 700404 700405 b10) (cI (cI (cB (cA (cB (cB (cB (cF Tryz.f36)))))))) Q:=by
 induction k with
 | zero=>intro v7 b10 o h; cases h
 | succ k ih =>
  intro v7 b10 o h hQ
  rw [law35_played_o_l1] at h
  refine WL.round (Wp.seq (Wp.seq (rg [1,5,6,7,15] [6,10,700402,700403,700404,700405] [(1,rs45 v1),(5,.own 10 0),(6,.own 6 0),(7,vi v7),(15,vb (decide (v7 < (List.length v1:Int))))] ((6,89,(E_ref35_Host b6))::qh39 10 700402 700403 700404 700405 b10) (To.thenN (cn h (fun h=>?_) (fun h=>?_))))))
  ·refine Wp.skip (To.thenN (Wp.seq (Wp.block ?_)))
   obtain ⟨hc4,h⟩:=chk_of h
   obtain ⟨r3,hr3,h⟩:=bind_of h
   refine Wp.regionO hm hΓ [] [] [(6,⟨[(1000000,10),(1010060,700402),(1010061,700403),(1010062,700404),(1010063,700405)],[(1000000,10),(1010060,700402),(1010061,700403),(1010062,700404),(1010063,700405)],[.own 1000000 0,.agg (qc47 b6),.agg [vi ((ex42 v1 v7).f_Kind),vi ((ex42 v1 v7).f_N),vi ((ex42 v1 v7).f_M),vi ((ex42 v1 v7).f_Call.f_Kind),.str ((ex42 v1 v7).f_Call.f_Name),vi ((ex42 v1 v7).f_Call.f_Id),.str ((ex42 v1 v7).f_Call.f_Spec.f_Name),.str ((ex42 v1 v7).f_Call.f_Spec.f_Project),.str ((ex42 v1 v7).f_Call.f_Spec.f_Service),vi ((ex42 v1 v7).f_Call.f_Spec.f_Number),.str ((ex42 v1 v7).f_Call.f_Spec.f_Hash),ls ((ex42 v1 v7).f_Call.f_Spec.f_Nets),ls ((ex42 v1 v7).f_Call.f_Spec.f_Vols),.str (ex72 v1 v7),vi (ex71 v1 v7),vi ((ex42 v1 v7).f_Call.f_Spec.f_Health.f_Start),vi ((ex42 v1 v7).f_Call.f_Spec.f_Health.f_Retries),vi ((ex42 v1 v7).f_Call.f_Spec.f_Restart),vi ((ex42 v1 v7).f_Call.f_Spec.f_Tries)]],(ex38 b10),.tup [.agg (qc47 r3.1),vb r3.2.1],(qh39 1000000 1010060 1010061 1010062 1010063 r3.2.2)⟩)] [1,5,6,7,15,18,19,20,21,22,23,24] [6,10,700402,700403,700404,700405] [1,5,6,7] [6,10,700402,700403,700404,700405] (K':=[(1,rs45 v1),(5,.own 10 0),(6,.own 6 0),(7,vi v7)]) (L':=((6,89,(E_ref35_Host b6))::qh39 10 700402 700403 700404 700405 r3.2.2)) (ob:=[(decide (ex43 v7 v1)) = true,CbOb (CallsB Tryz.prog) 42 [.own 10 0,.agg (qc47 b6),.agg [vi ((ex42 v1 v7).f_Kind),vi ((ex42 v1 v7).f_N),vi ((ex42 v1 v7).f_M),vi ((ex42 v1 v7).f_Call.f_Kind),.str ((ex42 v1 v7).f_Call.f_Name),vi ((ex42 v1 v7).f_Call.f_Id),.str ((ex42 v1 v7).f_Call.f_Spec.f_Name),.str ((ex42 v1 v7).f_Call.f_Spec.f_Project),.str ((ex42 v1 v7).f_Call.f_Spec.f_Service),vi ((ex42 v1 v7).f_Call.f_Spec.f_Number),.str ((ex42 v1 v7).f_Call.f_Spec.f_Hash),ls ((ex42 v1 v7).f_Call.f_Spec.f_Nets),ls ((ex42 v1 v7).f_Call.f_Spec.f_Vols),.str (ex72 v1 v7),vi (ex71 v1 v7),vi ((ex42 v1 v7).f_Call.f_Spec.f_Health.f_Start),vi ((ex42 v1 v7).f_Call.f_Spec.f_Health.f_Retries),vi ((ex42 v1 v7).f_Call.f_Spec.f_Restart),vi ((ex42 v1 v7).f_Call.f_Spec.f_Tries)]] (ph40 700402 700403 700404 700405 b10) ⟨[(1000000,10),(1010060,700402),(1010061,700403),(1010062,700404),(1010063,700405)],[(1000000,10),(1010060,700402),(1010061,700403),(1010062,700404),(1010063,700405)],[.own 1000000 0,.agg (qc47 b6),.agg [vi ((ex42 v1 v7).f_Kind),vi ((ex42 v1 v7).f_N),vi ((ex42 v1 v7).f_M),vi ((ex42 v1 v7).f_Call.f_Kind),.str ((ex42 v1 v7).f_Call.f_Name),vi ((ex42 v1 v7).f_Call.f_Id),.str ((ex42 v1 v7).f_Call.f_Spec.f_Name),.str ((ex42 v1 v7).f_Call.f_Spec.f_Project),.str ((ex42 v1 v7).f_Call.f_Spec.f_Service),vi ((ex42 v1 v7).f_Call.f_Spec.f_Number),.str ((ex42 v1 v7).f_Call.f_Spec.f_Hash),ls ((ex42 v1 v7).f_Call.f_Spec.f_Nets),ls ((ex42 v1 v7).f_Call.f_Spec.f_Vols),.str (ex72 v1 v7),vi (ex71 v1 v7),vi ((ex42 v1 v7).f_Call.f_Spec.f_Health.f_Start),vi ((ex42 v1 v7).f_Call.f_Spec.f_Health.f_Retries),vi ((ex42 v1 v7).f_Call.f_Spec.f_Restart),vi ((ex42 v1 v7).f_Call.f_Spec.f_Tries)]],(ex38 b10),.tup [.agg (qc47 r3.1),vb r3.2.1],(qh39 1000000 1010060 1010061 1010062 1010063 r3.2.2)⟩]) (by kernel_rfl) (by kernel_rfl) (AllP.cons hc4 (AllP.cons (⟨(ok_law35_step__o0 n b6 (ex42 v1 v7) b10 _ hr3),by kernel_rfl,by kernel_rfl⟩) AllP.nil)) ?_
   refine To.blockN (To.thenN (rg [1,5,6,7] [6,10,700402,700403,700404,700405] [(1,rs45 v1),(5,.own 10 0),(6,.own 6 0),(ex16 v7)] ((6,89,(E_ref35_Host b6))::qh39 10 700402 700403 700404 700405 r3.2.2) (kt [1,5,6,7] [6,10,700402,700403,700404,700405] [(1,rs45 v1),(5,.own 10 0),(6,.own 6 0),(ex16 v7)] ((6,89,(E_ref35_Host b6))::qh39 10 700402 700403 700404 700405 r3.2.2) (To.again ?_))))
   exact ih (IntKind.wrap .i64 (v7 + 1)) r3.2.2 _ h hQ
  ·refine Wp.exit (To.thenX (To.thenX (kt [5] [10,700402,700403,700404,700405] [(5,.own 10 0)] (qh39 10 700402 700403 700404 700405 b10) ?_)))
   cases h
   exact hQ
def law35_played_o (n:Nat) (a0:List (S_fault_Gap)) (a1:List (S_law35_Deed)):Option (S_host_Host) :=
 (law35_gaps n a0).bind fun r1 =>
 (host_New_o n r1).bind fun r2 =>
 (law35_played_o_l1 n a1 (S_ref35_Host.mk (S_ref33_Store.mk [] [] [] 0) (S_ref34_Plan.mk [] 0) 0) n 0 r2).bind fun o3 =>
 some o3
theorem ok_law35_played_o (n:Nat) (a0:List (S_fault_Gap)) (a1:List (S_law35_Deed)) (r:S_host_Host) (h:law35_played_o n a0 a1 = some r):CallsB Tryz.prog 36 [rs32 a0,rs45 a1] [] (.own 1 0) (qh39 1 2 3 4 5 r):=by
 unfold law35_played_o at h
 refine bo Tryz.f36 rfl fun F0 w0=>?_
 refine Wp.seq (rg [0,1] [] [(0,rs32 a0),(1,rs45 a1)] [] (To.thenN (Wp.seq ?_)))
 obtain ⟨r1,hr1,h⟩:=bind_of h
 obtain ⟨r2,hr2,h⟩:=bind_of h
 refine rr [] [(1,rs33 r1)] [(2,⟨[],[(1,10),(2,700402),(3,700403),(4,700404),(5,700405)],[rs33 r1],[],.own 1 0,(qh39 1 2 3 4 5 r2)⟩)] [1,5] [10,700402,700403,700404,700405] [(1,rs45 a1),(5,.own 10 0)] (qh39 10 700402 700403 700404 700405 r2) [_,CbOb (CallsB Tryz.prog) 27 [rs33 r1] [] ⟨[],[(1,10),(2,700402),(3,700403),(4,700404),(5,700405)],[rs33 r1],[],.own 1 0,(qh39 1 2 3 4 5 r2)⟩] (AllP.cons (c1 (ok_law35_gaps n a0 _ hr1)) (AllP.cons (⟨(ok_host_New_o n r1 _ hr2),by kernel_rfl,by kernel_rfl⟩) AllP.nil)) ?_
 refine To.thenN (Wp.seq (rg [1,5,6] [6,10,700402,700403,700404,700405] [(1,rs45 a1),(5,.own 10 0),(6,.own 6 0)] ((6,89,[.val (.slice none 0 0),.val (.slice none 0 0),.val (.slice none 0 0),vi 0,.val (.slice none 0 0),vi 0,vi 0])::qh39 10 700402 700403 700404 700405 r2) (To.thenN (Wp.seq (Wp.seq (rg [1,5,6,7] [6,10,700402,700403,700404,700405] [(1,rs45 a1),(5,.own 10 0),(6,.own 6 0),(7,vi 0)] ((6,89,[.val (.slice none 0 0),.val (.slice none 0 0),.val (.slice none 0 0),vi 0,.val (.slice none 0 0),vi 0,vi 0])::qh39 10 700402 700403 700404 700405 r2) (To.thenN (Wp.block ?_))))))))
 obtain ⟨o3,ho3,h⟩:=bind_of h
 refine kw [1,5,6,7] [6,10,700402,700403,700404,700405] [(1,rs45 a1),(5,.own 10 0),(6,.own 6 0),(7,vi 0)] ((6,89,[.val (.slice none 0 0),.val (.slice none 0 0),.val (.slice none 0 0),vi 0,.val (.slice none 0 0),vi 0,vi 0])::qh39 10 700402 700403 700404 700405 r2) (Wp.weak (K':=[(1,rs45 a1),(5,.own 10 0),(6,.own 6 0),(7,vi 0)]) (L':=((6,89,[rs19 [],rs16 [],rs16 [],vi 0,rs32 [],vi 0,vi 0])::qh39 10 700402 700403 700404 700405 r2)) (.cons (.refl _) (.cons (.refl _) (.cons (.refl _) (.cons (.refl _) .nil)))) (.cons (.cons (.zero _ _) (.cons (.zero _ _) (.cons (.zero _ _) (.cons (.refl _) (.cons (.zero _ _) (.cons (.refl _) (.cons (.refl _) .nil))))))) (.cons (.cons (.refl _) (.cons (.refl _) (.cons (.refl _) (.cons (.refl _) .nil)))) (.cons (.cons (.refl _) (.cons (.refl _) (.cons (.refl _) (.cons (.refl _) .nil)))) (.cons (.cons (.refl _) .nil) (.cons (.cons (.refl _) .nil) (.cons (.cons (.refl _) .nil) .nil)))))) (Wp.loopL (ok_law35_played_o_l1 n a1 (S_ref35_Host.mk zx22 zx50 0) n 0 r2 o3 ho3 (To.blockX (To.thenN (Wp.seq (rg [4] [10,700402,700403,700404,700405] [(4,.own 10 0)] (qh39 10 700402 700403 700404 700405 o3) (To.thenN (Wp.ret (nt [4] [10,700402,700403,700404,700405] [(10,1),(700402,2),(700403,3),(700404,4),(700405,5)] [4] [1,2,3,4,5] [(4,.own 1 0)] (qh39 1 2 3 4 5 o3) ?_))))))))))
 cases h
 exact To.doneB hΓ [1,2,3,4,5] (by kernel_rfl) (by kernel_rfl)
def host_Host_Tick_o__o0_j2 (n:Nat) (v5:Int) (v6:List (S_host_Event)) (v9:Int) (v10:Int) (v12:Int) (v50:Bool) (b7:S_life_Box) (b11:S_life_Box) (b1000000:S_host_Host):Option ((List (S_host_Event))) :=
 if v50 = true then (if (decide ((List.length v6 + List.length ([(S_host_Event.mk v9 2 b7.f_Id 0)]:List (S_host_Event))) * (32 + 1) ≤ limit)) = true then (some (v6 ++ ([(S_host_Event.mk v9 2 b7.f_Id 0)]:List (S_host_Event)))) else none)
 else some v6
theorem ok_host_Host_Tick_o__o0_j2 (n:Nat) (v5:Int) (v6:List (S_host_Event)) (v9:Int) (v10:Int) (v12:Int) (v50:Bool) (b7:S_life_Box) (b11:S_life_Box) (b1000000:S_host_Host) (o:(List (S_host_Event))) (h:host_Host_Tick_o__o0_j2 n v5 v6 v9 v10 v12 v50 b7 b11 b1000000 = some o) {F0:Fz} {w0:Pt Tryz.prog} {Q:Exit → Act → World → Prop} (hQ:To 81 F0 w0 [(0,.own 1000000 0),(5,vi v5),(6,.row 1006),(7,.own 7 0),(9,vi v9),(10,vi v10),(11,.own 11 0),(12,vi v12)] ((7,53,(E_life_Box b7))::(11,53,(E_life_Box b11))::(1006,137,[rc42 o])::qh39 1000000 1010060 1010061 1010062 1010063 b1000000) .normal Q):Wp Tryz.prog 81 F0 w0 [(0,.own 1000000 0),(5,vi v5),(6,.row 1006),(7,.own 7 0),(9,vi v9),(10,vi v10),(11,.own 11 0),(12,vi v12),(50,vb v50)] (ex37 b7 b11 v6 b1000000) (cB (cA (cB (cB (cB (cB (cB (cI (cI (cI (cA (cB (cB (cB (cB (cF Tryz.f38)))))))))))))))) Q:=by
 unfold host_Host_Tick_o__o0_j2 at h
 refine cn h (fun h=>?_) (fun h=>?_)
 ·obtain ⟨hc6,h⟩:=chk_of h
  refine rr [] [(5,rs43 [(S_host_Event.mk v9 2 b7.f_Id 0)]),(6,rs43 (v6 ++ (ex36 v9 b7)))] [] [0,5,6,7,9,10,11,12] [7,11,57,1000000,1010060,1010061,1010062,1010063] [(0,.own 1000000 0),(5,vi v5),(6,.row 57),(7,.own 7 0),(9,vi v9),(10,vi v10),(11,.own 11 0),(12,vi v12)] ((7,53,(E_life_Box b7))::(11,53,(E_life_Box b11))::(57,137,[rc42 (v6 ++ (ex36 v9 b7))])::qh39 1000000 1010060 1010061 1010062 1010063 b1000000) [(MkOb 4 [vi v9,vi 2,vi b7.f_Id,vi 0] 1 (rs43 [(S_host_Event.mk v9 2 b7.f_Id 0)]) ∧ GoodR (rs43 [(S_host_Event.mk v9 2 b7.f_Id 0)])),_,(AppOb zx41 E_host_Event v6 (List.flatMap E_host_Event (ex36 v9 b7)) (List.length (ex36 v9 b7)) (rs43 (v6 ++ (ex36 v9 b7))) ∧ GoodR (rs43 (v6 ++ (ex36 v9 b7))))] (AllP.cons (mkOb (by kernel_rfl) rfl (by kernel_rfl) (good_E_host_Event _)) (AllP.cons hc6 (AllP.cons (appOb rfl rfl (good_E_host_Event _)) AllP.nil))) (nt [0,5,6,7,9,10,11,12] [7,11,57,1000000,1010060,1010061,1010062,1010063] [(57,1006)] [0,5,6,7,9,10,11,12] [7,11,1006,1000000,1010060,1010061,1010062,1010063] [(0,.own 1000000 0),(5,vi v5),(6,.row 1006),(7,.own 7 0),(9,vi v9),(10,vi v10),(11,.own 11 0),(12,vi v12)] ((7,53,(E_life_Box b7))::(11,53,(E_life_Box b11))::(1006,137,[rc42 (v6 ++ (ex36 v9 b7))])::qh39 1000000 1010060 1010061 1010062 1010063 b1000000) ?_)
  cases h
  exact hQ
 ·refine Wp.skip (kt [0,5,6,7,9,10,11,12] [7,11,1006,1000000,1010060,1010061,1010062,1010063] [(0,.own 1000000 0),(5,vi v5),(6,.row 1006),(7,.own 7 0),(9,vi v9),(10,vi v10),(11,.own 11 0),(12,vi v12)] (ex37 b7 b11 v6 b1000000) ?_)
  cases h
  exact hQ
def host_Host_Tick_o__o0_l1 (n:Nat) (v5:Int):Nat → (List (S_host_Event)) → S_host_Host → Option ((List (S_host_Event)) × S_host_Host)
 | 0,_,_=>none
 | k + 1,v6,b1000000=>(host_Host_next__o0 n v5 b1000000).bind fun r2 =>
 if (!r2.2.1) = true then (some (v6,r2.2.2))
 else (lett (life_Seen r2.1) fun r3 =>
 lett (life_Tick r2.1 v5) fun r4 =>
 (store_Store_Put__o0 n r4.1 r2.2.2.f_Store).bind fun r5 =>
 (host_Host_Tick_o__o0_j2 n v5 v6 (life_Next r2.1) r3.f_Health r4.2 (r4.2 == 2) r2.1 r4.1 (S_host_Host.mk r5.2 r2.2.2.f_plan r2.2.2.f_now)).bind fun o6 =>
 lett (life_Seen r4.1) fun r7 =>
 if (bif (r4.2 == 1) then (r7.f_Health != r3.f_Health) else false) = true then (if (decide ((List.length o6 + List.length ([(S_host_Event.mk (life_Next r2.1) 3 r2.1.f_Id r7.f_Health)]:List (S_host_Event))) * (32 + 1) ≤ limit)) = true then (host_Host_Tick_o__o0_l1 n v5 k (o6 ++ ([(S_host_Event.mk (life_Next r2.1) 3 r2.1.f_Id r7.f_Health)]:List (S_host_Event))) (S_host_Host.mk r5.2 r2.2.2.f_plan r2.2.2.f_now)) else none)
 else (host_Host_Tick_o__o0_l1 n v5 k o6 (S_host_Host.mk r5.2 r2.2.2.f_plan r2.2.2.f_now)))
theorem ok_host_Host_Tick_o__o0_l1 (n:Nat) (v5:Int) {F0:Fz} {w0:Pt Tryz.prog} {Q:Exit → Act → World → Prop} (k:Nat):∀ (v6:List (S_host_Event)) (b1000000:S_host_Host) (o:(List (S_host_Event)) × S_host_Host),host_Host_Tick_o__o0_l1 n v5 k v6 b1000000 = some o → To 81 F0 w0 [(0,.own 1000000 0),(5,vi v5),(6,.row 1006)] ((1006,137,[rc42 o.1])::qh39 1000000 1010060 1010061 1010062 1010063 o.2) (.exit 0) Q → WL Tryz.prog 81 F0 w0 [(0,.own 1000000 0),(5,vi v5),(6,.row 1006)] ((1006,137,[rc42 v6])::qh39 1000000 1010060 1010061 1010062 1010063 b1000000) (cI (cI (cA (cB (cB (cB (cB (cF Tryz.f38)))))))) Q:=by
 induction k with
 | zero=>intro v6 b1000000 o h; cases h
 | succ k ih =>
  intro v6 b1000000 o h hQ
  rw [host_Host_Tick_o__o0_l1] at h
  refine WL.round (Wp.block (Wp.seq ?_))
  obtain ⟨r2,hr2,h⟩:=bind_of h
  refine rb [] 2 ⟨[(1000000,1000000),(1010060,1010060),(1010061,1010061),(1010062,1010062),(1010063,1010063)],[(1000000,1000000),(1010060,1010060),(1010061,1010061),(1010062,1010062),(1010063,1010063)],[.own 1000000 0,vi v5],(ex38 b1000000),.tup [.agg (qc8 r2.1),vb r2.2.1],(qh39 1000000 1010060 1010061 1010062 1010063 r2.2.2)⟩ [0,5,6,7,8] [7,1006,1000000,1010060,1010061,1010062,1010063] [(0,.own 1000000 0),(5,vi v5),(6,.row 1006),(7,.own 7 0),(8,vb r2.2.1)] ((7,53,(E_life_Box r2.1))::(1006,137,[rc42 v6])::qh39 1000000 1010060 1010061 1010062 1010063 r2.2.2) ((ok_host_Host_next__o0 n v5 b1000000 _ hr2)) (To.thenN (Wp.seq (Wp.seq (rg [0,5,6,7,31] [7,1006,1000000,1010060,1010061,1010062,1010063] [(0,.own 1000000 0),(5,vi v5),(6,.row 1006),(7,.own 7 0),(31,vb (!r2.2.1))] ((7,53,(E_life_Box r2.1))::(1006,137,[rc42 v6])::qh39 1000000 1010060 1010061 1010062 1010063 r2.2.2) (To.thenN (cn h (fun h=>?_) (fun h=>?_)))))))
  ·refine Wp.exit (To.thenX (To.blockO (by decide) (To.thenX (kt [0,5,6] [1006,1000000,1010060,1010061,1010062,1010063] [(0,.own 1000000 0),(5,vi v5),(6,.row 1006)] ((1006,137,[rc42 v6])::qh39 1000000 1010060 1010061 1010062 1010063 r2.2.2) ?_))))
   cases h
   exact hQ
  ·refine Wp.skip (To.thenN (Wp.seq ?_))
   obtain ⟨r3,hr3,h⟩:=lett_of h
   refine Wp.regionO hm hΓ [] [(1,vi (life_Next r2.1)),(3,.agg (qc26 r3))] [] [0,5,6,7,9,10,31,32,33,34,35,36] [7,1006,1000000,1010060,1010061,1010062,1010063] [0,5,6,7,9,10] [7,1006,1000000,1010060,1010061,1010062,1010063] (K':=[(0,.own 1000000 0),(5,vi v5),(6,.row 1006),(7,.own 7 0),(9,vi (life_Next r2.1)),(10,vi r3.f_Health)]) (L':=((7,53,(E_life_Box r2.1))::(1006,137,[rc42 v6])::qh39 1000000 1010060 1010061 1010062 1010063 r2.2.2)) (ob:=[(true = true → CX Tryz.prog 72 [.agg (qc8 r2.1)] (vi (life_Next r2.1))),(true = true → CX Tryz.prog 63 [.agg (qc8 r2.1)] (.agg (qc26 r3)))]) (by kernel_rfl) (by kernel_rfl) (AllP.cons (fun _=>cx (ok_life_Next r2.1 _ rfl)) (AllP.cons (fun _=>cx (ok_life_Seen r2.1 _ hr3)) AllP.nil)) (To.thenN (Wp.seq ?_))
   obtain ⟨r4,hr4,h⟩:=lett_of h
   refine rc [] 2 [0,5,6,7,9,10,11,12] [7,11,1006,1000000,1010060,1010061,1010062,1010063] [(0,.own 1000000 0),(5,vi v5),(6,.row 1006),(7,.own 7 0),(9,vi (life_Next r2.1)),(10,vi r3.f_Health),(11,.own 11 0),(12,vi r4.2)] ((7,53,(E_life_Box r2.1))::(11,53,(E_life_Box r4.1))::(1006,137,[rc42 v6])::qh39 1000000 1010060 1010061 1010062 1010063 r2.2.2) (ok_life_Tick r2.1 v5 _ hr4) (To.thenN (Wp.seq ?_))
   obtain ⟨r5,hr5,h⟩:=bind_of h
   refine Wp.regionO hm hΓ [] [] [(5,⟨[(1000000,1010060),(1010060,1010061),(1010061,1010062),(1010062,1010063)],[(1000000,1010060),(1010060,1010061),(1010061,1010062),(1010062,1010063)],[.own 1000000 0,.agg (qc8 r4.1)],(qf5 1000000 1010060 1010061 1010062 r2.2.2.f_Store),vb r5.1,(qf5 1000000 1010060 1010061 1010062 r5.2)⟩)] [0,5,6,7,9,10,11,12,43,44,45,46,47,48] [7,11,1006,1000000,1010060,1010061,1010062,1010063] [0,5,6,7,9,10,11,12] [7,11,1006,1000000,1010060,1010061,1010062,1010063] (K':=[(0,.own 1000000 0),(5,vi v5),(6,.row 1006),(7,.own 7 0),(9,vi (life_Next r2.1)),(10,vi r3.f_Health),(11,.own 11 0),(12,vi r4.2)]) (L':=((7,53,(E_life_Box r2.1))::(11,53,(E_life_Box r4.1))::(1006,137,[rc42 v6])::(1000000,139,[.own 1010060 0,rs33 r2.2.2.f_plan.f_l,vi r2.2.2.f_plan.f_more,vi r2.2.2.f_now])::qf5 1010060 1010061 1010062 1010063 r5.2)) (ob:=[CbOb (CallsB Tryz.prog) 23 [.own 1010060 0,.agg (qc8 r4.1)] (ps15 1010061 1010062 1010063 r2.2.2.f_Store) ⟨[(1000000,1010060),(1010060,1010061),(1010061,1010062),(1010062,1010063)],[(1000000,1010060),(1010060,1010061),(1010061,1010062),(1010062,1010063)],[.own 1000000 0,.agg (qc8 r4.1)],(qf5 1000000 1010060 1010061 1010062 r2.2.2.f_Store),vb r5.1,(qf5 1000000 1010060 1010061 1010062 r5.2)⟩]) (by kernel_rfl) (by kernel_rfl) (AllP.cons (⟨(ok_store_Store_Put__o0 n r4.1 r2.2.2.f_Store _ hr5),by kernel_rfl,by kernel_rfl⟩) AllP.nil) ?_
   refine To.thenN (Wp.seq (Wp.seq (rg [0,5,6,7,9,10,11,12,50] [7,11,1006,1000000,1010060,1010061,1010062,1010063] [(0,.own 1000000 0),(5,vi v5),(6,.row 1006),(7,.own 7 0),(9,vi (life_Next r2.1)),(10,vi r3.f_Health),(11,.own 11 0),(12,vi r4.2),(50,vb (r4.2 == 2))] ((7,53,(E_life_Box r2.1))::(11,53,(E_life_Box r4.1))::(1006,137,[rc42 v6])::(1000000,139,[.own 1010060 0,rs33 r2.2.2.f_plan.f_l,vi r2.2.2.f_plan.f_more,vi r2.2.2.f_now])::qf5 1010060 1010061 1010062 1010063 r5.2) (To.thenN ?_))))
   obtain ⟨o6,ho6,h⟩:=bind_of h
   refine kw [0,5,6,7,9,10,11,12,50] [7,11,1006,1000000,1010060,1010061,1010062,1010063] [(0,.own 1000000 0),(5,vi v5),(6,.row 1006),(7,.own 7 0),(9,vi (life_Next r2.1)),(10,vi r3.f_Health),(11,.own 11 0),(12,vi r4.2),(50,vb (r4.2 == 2))] ((7,53,(E_life_Box r2.1))::(11,53,(E_life_Box r4.1))::(1006,137,[rc42 v6])::(1000000,139,[.own 1010060 0,rs33 r2.2.2.f_plan.f_l,vi r2.2.2.f_plan.f_more,vi r2.2.2.f_now])::qf5 1010060 1010061 1010062 1010063 r5.2) (ok_host_Host_Tick_o__o0_j2 n v5 v6 (life_Next r2.1) r3.f_Health r4.2 (r4.2 == 2) r2.1 r4.1 (S_host_Host.mk r5.2 r2.2.2.f_plan r2.2.2.f_now) o6 ho6 (To.thenN (Wp.seq ?_)))
   obtain ⟨r7,hr7,h⟩:=lett_of h
   refine rc [] 1 [0,5,6,7,9,10,12,13] [7,1006,1000000,1010060,1010061,1010062,1010063] [(0,.own 1000000 0),(5,vi v5),(6,.row 1006),(7,.own 7 0),(9,vi (life_Next r2.1)),(10,vi r3.f_Health),(12,vi r4.2),(13,vi r7.f_Health)] ((7,53,(E_life_Box r2.1))::(1006,137,[rc42 o6])::(1000000,139,[.own 1010060 0,rs33 r2.2.2.f_plan.f_l,vi r2.2.2.f_plan.f_more,vi r2.2.2.f_now])::qf5 1010060 1010061 1010062 1010063 r5.2) (ok_life_Seen r4.1 _ hr7) (To.thenN (Wp.seq (rg [0,5,6,7,9,13,67] [7,1006,1000000,1010060,1010061,1010062,1010063] [(0,.own 1000000 0),(5,vi v5),(6,.row 1006),(7,.own 7 0),(9,vi (life_Next r2.1)),(13,vi r7.f_Health),(67,vb (bif (r4.2 == 1) then (r7.f_Health != r3.f_Health) else false))] ((7,53,(E_life_Box r2.1))::(1006,137,[rc42 o6])::(1000000,139,[.own 1010060 0,rs33 r2.2.2.f_plan.f_l,vi r2.2.2.f_plan.f_more,vi r2.2.2.f_now])::qf5 1010060 1010061 1010062 1010063 r5.2) (To.thenN (cn h (fun h=>?_) (fun h=>?_))))))
   ·obtain ⟨hc8,h⟩:=chk_of h
    refine rr [] [(6,rs43 [(S_host_Event.mk (life_Next r2.1) 3 r2.1.f_Id r7.f_Health)]),(7,rs43 (o6 ++ ([(S_host_Event.mk (life_Next r2.1) 3 r2.1.f_Id r7.f_Health)]:List (S_host_Event))))] [] [0,5,6] [75,1000000,1010060,1010061,1010062,1010063] [(0,.own 1000000 0),(5,vi v5),(6,.row 75)] ((75,137,[rc42 (o6 ++ ([(S_host_Event.mk (life_Next r2.1) 3 r2.1.f_Id r7.f_Health)]:List (S_host_Event)))])::(1000000,139,[.own 1010060 0,rs33 r2.2.2.f_plan.f_l,vi r2.2.2.f_plan.f_more,vi r2.2.2.f_now])::qf5 1010060 1010061 1010062 1010063 r5.2) [(MkOb 4 [vi (life_Next r2.1),vi 3,vi r2.1.f_Id,vi r7.f_Health] 1 (rs43 [(S_host_Event.mk (life_Next r2.1) 3 r2.1.f_Id r7.f_Health)]) ∧ GoodR (rs43 [(S_host_Event.mk (life_Next r2.1) 3 r2.1.f_Id r7.f_Health)])),_,(AppOb zx41 E_host_Event o6 (List.flatMap E_host_Event ([(S_host_Event.mk (life_Next r2.1) 3 r2.1.f_Id r7.f_Health)]:List (S_host_Event))) (List.length ([(S_host_Event.mk (life_Next r2.1) 3 r2.1.f_Id r7.f_Health)]:List (S_host_Event))) (rs43 (o6 ++ ([(S_host_Event.mk (life_Next r2.1) 3 r2.1.f_Id r7.f_Health)]:List (S_host_Event)))) ∧ GoodR (rs43 (o6 ++ ([(S_host_Event.mk (life_Next r2.1) 3 r2.1.f_Id r7.f_Health)]:List (S_host_Event)))))] (AllP.cons (mkOb (by kernel_rfl) rfl (by kernel_rfl) (good_E_host_Event _)) (AllP.cons hc8 (AllP.cons (appOb rfl rfl (good_E_host_Event _)) AllP.nil))) (To.blockN (nt [0,5,6] [75,1000000,1010060,1010061,1010062,1010063] [(75,1006)] [0,5,6] [1006,1000000,1010060,1010061,1010062,1010063] [(0,.own 1000000 0),(5,vi v5),(6,.row 1006)] ((1006,137,[rc42 (o6 ++ ([(S_host_Event.mk (life_Next r2.1) 3 r2.1.f_Id r7.f_Health)]:List (S_host_Event)))])::(1000000,139,[.own 1010060 0,rs33 r2.2.2.f_plan.f_l,vi r2.2.2.f_plan.f_more,vi r2.2.2.f_now])::qf5 1010060 1010061 1010062 1010063 r5.2) (To.again ?_)))
    exact ih (o6 ++ ([(S_host_Event.mk (life_Next r2.1) 3 r2.1.f_Id r7.f_Health)]:List (S_host_Event))) (S_host_Host.mk r5.2 r2.2.2.f_plan r2.2.2.f_now) _ h hQ
   ·refine Wp.skip (To.blockN (kt [0,5,6] [1006,1000000,1010060,1010061,1010062,1010063] [(0,.own 1000000 0),(5,vi v5),(6,.row 1006)] ((1006,137,[rc42 o6])::(1000000,139,[.own 1010060 0,rs33 r2.2.2.f_plan.f_l,vi r2.2.2.f_plan.f_more,vi r2.2.2.f_now])::qf5 1010060 1010061 1010062 1010063 r5.2) (To.again ?_)))
    exact ih o6 (S_host_Host.mk r5.2 r2.2.2.f_plan r2.2.2.f_now) _ h hQ
def host_Host_Tick_o__o0 (n:Nat) (a1:Int) (h0:S_host_Host):Option ((List (S_host_Event)) × S_host_Host) :=
 lett ((IntKind.wrap .i64 (h0.f_now + (if (10000:Int) < (if (0:Int) > a1 then 0 else a1) then 10000 else (if (0:Int) > a1 then 0 else a1)))):Int) fun x1 =>
 (host_Host_Tick_o__o0_l1 n x1 n ([]:List (S_host_Event)) h0).bind fun o2 =>
 some (o2.1,(S_host_Host.mk o2.2.f_Store o2.2.f_plan x1))
theorem ok_host_Host_Tick_o__o0 (n:Nat) (a1:Int) (h0:S_host_Host) (r:(List (S_host_Event)) × S_host_Host) (h:host_Host_Tick_o__o0 n a1 h0 = some r):CallsB Tryz.prog 38 [.own 1000000 0,vi a1] (qh39 1000000 1010060 1010061 1010062 1010063 h0) (.row 1) ((1,137,[rc42 r.1])::qh39 1000000 1010060 1010061 1010062 1010063 r.2):=by
 unfold host_Host_Tick_o__o0 at h
 refine bo Tryz.f38 rfl fun F0 w0=>?_
 refine Wp.seq (rg [0,1] [1000000,1010060,1010061,1010062,1010063] [(0,.own 1000000 0),(1,vi a1)] (qh39 1000000 1010060 1010061 1010062 1010063 h0) (To.thenN (Wp.seq (Wp.seq (rg [0,1,15] [1000000,1010060,1010061,1010062,1010063] [(0,.own 1000000 0),(1,vi a1),(15,vb false)] (qh39 1000000 1010060 1010061 1010062 1010063 h0) (To.thenN (Wp.cond (b:=false) (by kernel_rfl) (fun hb=>by cases hb) (fun _=>(Wp.skip (To.thenN (Wp.seq ?_)))))))))))
 obtain ⟨x1,hx1,h⟩:=lett_of h
 refine rg [0,5] [1000000,1010060,1010061,1010062,1010063] [(0,.own 1000000 0),(5,vi (IntKind.wrap .i64 (h0.f_now + (if (10000:Int) < (ex26 a1) then 10000 else (ex26 a1)))))] (qh39 1000000 1010060 1010061 1010062 1010063 h0) (To.eq (K':=[(0,.own 1000000 0),(5,vi x1)]) (L':=(qh39 1000000 1010060 1010061 1010062 1010063 h0)) (by cases hx1; rfl) (by cases hx1; rfl) (To.thenN (Wp.seq (rg [0,5,6] [1000000,1010060,1010061,1010062,1010063] [(0,.own 1000000 0),(5,vi x1),(6,.val (.slice none 0 0))] (qh39 1000000 1010060 1010061 1010062 1010063 h0) (To.thenN (Wp.seq (Wp.block ?_)))))))
 obtain ⟨o2,ho2,h⟩:=bind_of h
 refine kw [0,5,6] [1000000,1010060,1010061,1010062,1010063] [(0,.own 1000000 0),(5,vi x1),(6,.val (.slice none 0 0))] (qh39 1000000 1010060 1010061 1010062 1010063 h0) (Wp.pre (St.vacant (t:=6) (k:=1006) (e:=137) (K':=[(0,.own 1000000 0),(5,vi x1),(6,.row 1006)]) (good_E_host_Event _) (by decide) (by kernel_rfl) (by kernel_rfl)) (kw [0,5,6] [1006,1000000,1010060,1010061,1010062,1010063] [(0,.own 1000000 0),(5,vi x1),(6,.row 1006)] ((1006,137,[rc42 []])::qh39 1000000 1010060 1010061 1010062 1010063 h0) (Wp.loopL (ok_host_Host_Tick_o__o0_l1 n x1 n ([]:List (S_host_Event)) h0 o2 ho2 (To.blockX (To.thenN (Wp.seq (rg [6] [1006,1000000,1010060,1010061,1010062,1010063] [(6,.row 1006)] ((1006,137,[rc42 o2.1])::(1000000,139,[.own 1010060 0,rs33 o2.2.f_plan.f_l,vi o2.2.f_plan.f_more,vi x1])::qf5 1010060 1010061 1010062 1010063 o2.2.f_Store) (To.thenN (Wp.seq ?_))))))))))
 refine rg [4] [1006,1000000,1010060,1010061,1010062,1010063] [(4,.row 1006)] ((1006,137,[rc42 o2.1])::(1000000,139,[.own 1010060 0,rs33 o2.2.f_plan.f_l,vi o2.2.f_plan.f_more,vi x1])::qf5 1010060 1010061 1010062 1010063 o2.2.f_Store) (To.thenN (Wp.ret (nt [4] [1006,1000000,1010060,1010061,1010062,1010063] [(1006,1004)] [4] [1004,1000000,1010060,1010061,1010062,1010063] [(4,.row 1004)] ((1004,137,[rc42 o2.1])::(1000000,139,[.own 1010060 0,rs33 o2.2.f_plan.f_l,vi o2.2.f_plan.f_more,vi x1])::qf5 1010060 1010061 1010062 1010063 o2.2.f_Store) (To.pre (St.rename 1004 1 (by decide) (K':=[(4,.row 1)]) (L':=((1,137,[rc42 o2.1])::(1000000,139,[.own 1010060 0,rs33 o2.2.f_plan.f_l,vi o2.2.f_plan.f_more,vi x1])::qf5 1010060 1010061 1010062 1010063 o2.2.f_Store)) (by kernel_rfl) (by kernel_rfl) (by kernel_rfl)) ?_))))
 cases h
 exact To.doneB hΓ [1,1000000,1010060,1010061,1010062,1010063] (by kernel_rfl) (by kernel_rfl)
def law35_Events_o_l1 (n:Nat) (v0:List (S_host_Event)):Nat → (List (S_host_Event)) → Int → Option ((List (S_host_Event)))
 | 0,_,_=>none
 | k + 1,v3,v4=>if (decide (v4 < (List.length v0:Int))) = true then (if (decide (0 ≤ v4 ∧ v4 < (List.length v0:Int))) = true then (if (decide ((List.length v3 + List.length ([((v0)[Int.toNat v4]?.getD (S_host_Event.mk 0 0 0 0))]:List (S_host_Event))) * (32 + 1) ≤ limit)) = true then (law35_Events_o_l1 n v0 k (v3 ++ ([((v0)[Int.toNat v4]?.getD (S_host_Event.mk 0 0 0 0))]:List (S_host_Event))) (IntKind.wrap .i64 (v4 + 1))) else none) else none)
 else some v3
theorem ok_law35_Events_o_l1 (n:Nat) (v0:List (S_host_Event)) {F0:Fz} {w0:Pt Tryz.prog} {Q:Exit → Act → World → Prop} (k:Nat):∀ (v3:List (S_host_Event)) (v4:Int) (o:(List (S_host_Event))),law35_Events_o_l1 n v0 k v3 v4 = some o → To 19 F0 w0 [(3,.row 1003)] [(1003,84,[rc48 o])] (.exit 0) Q → WL Tryz.prog 19 F0 w0 [(0,rs43 v0),(3,.row 1003),(4,vi v4)] [(1003,84,[rc48 v3])] (cI (cI (cB (cA (cB (cB (cF Tryz.f37))))))) Q:=by
 induction k with
 | zero=>intro v3 v4 o h; cases h
 | succ k ih =>
  intro v3 v4 o h hQ
  rw [law35_Events_o_l1] at h
  refine WL.round (Wp.seq (Wp.seq (rg [0,3,4,8] [1003] [(0,rs43 v0),(3,.row 1003),(4,vi v4),(8,vb (ex52 v4 v0))] [(1003,84,[rc48 v3])] (To.thenN (cn h (fun h=>?_) (fun h=>?_))))))
  ·refine Wp.skip (To.thenN (Wp.seq (Wp.block ?_)))
   obtain ⟨hc1,h⟩:=chk_of h
   obtain ⟨hc2,h⟩:=chk_of h
   refine rr [] [(5,rs49 ([(ex50 v0 v4)])),(6,rs49 (v3 ++ (ex73 v0 v4)))] [] [0,3,4] [17] [(0,rs43 v0),(3,.row 17),(4,vi v4)] [(17,84,[rc48 (v3 ++ (ex73 v0 v4))])] [_,(MkOb 4 [vi ((ex50 v0 v4).f_At),vi ((ex50 v0 v4).f_Kind),vi ((ex50 v0 v4).f_Id),vi ((ex50 v0 v4).f_What)] 1 (rs49 ([(ex50 v0 v4)])) ∧ GoodR (rs49 ([(ex50 v0 v4)]))),_,(AppOb zx41 E_ref35_Event v3 (List.flatMap E_ref35_Event (ex73 v0 v4)) (List.length (ex73 v0 v4)) (rs49 (v3 ++ (ex73 v0 v4))) ∧ GoodR (rs49 (v3 ++ (ex73 v0 v4))))] (AllP.cons hc1 (AllP.cons (mkOb (by kernel_rfl) rfl (by kernel_rfl) (good_E_ref35_Event _)) (AllP.cons hc2 (AllP.cons (appOb rfl rfl (good_E_ref35_Event _)) AllP.nil)))) (To.blockN (To.thenN (rg [0,3,4] [17] [(0,rs43 v0),(3,.row 17),(ex41 v4)] [(17,84,[rc48 (v3 ++ (ex73 v0 v4))])] (nt [0,3,4] [17] [(17,1003)] [0,3,4] [1003] [(0,rs43 v0),(3,.row 1003),(ex41 v4)] [(1003,84,[rc48 (v3 ++ (ex73 v0 v4))])] (To.again ?_)))))
   exact ih (v3 ++ (ex73 v0 v4)) (IntKind.wrap .i64 (v4 + 1)) _ h hQ
  ·refine Wp.exit (To.thenX (To.thenX (kt [3] [1003] [(3,.row 1003)] [(1003,84,[rc48 v3])] ?_)))
   cases h
   exact hQ
def law35_Events_o (n:Nat) (a0:List (S_host_Event)):Option ((List (S_host_Event))) :=
 (law35_Events_o_l1 n a0 n ([]:List (S_host_Event)) 0).bind fun o1 =>
 some o1
theorem ok_law35_Events_o (n:Nat) (a0:List (S_host_Event)) (r:(List (S_host_Event))) (h:law35_Events_o n a0 = some r):CallsB Tryz.prog 37 [rs43 a0] [] (.row 1) [(1,84,[rc48 r])]:=by
 unfold law35_Events_o at h
 refine bo Tryz.f37 rfl fun F0 w0=>?_
 refine Wp.seq (rg [0] [] [(0,rs43 a0)] [] (To.thenN (Wp.seq (rg [0,3] [] [(0,rs43 a0),(3,.val (.slice none 0 0))] [] (To.thenN (Wp.seq (Wp.seq (rg [0,3,4] [] [(0,rs43 a0),(3,.val (.slice none 0 0)),(4,vi 0)] [] (To.thenN (Wp.block ?_))))))))))
 obtain ⟨o1,ho1,h⟩:=bind_of h
 refine kw [0,3,4] [] [(0,rs43 a0),(3,.val (.slice none 0 0)),(4,vi 0)] [] (Wp.pre (St.vacant (t:=3) (k:=1003) (e:=84) (K':=[(0,rs43 a0),(3,.row 1003),(4,vi 0)]) (good_E_ref35_Event _) (by decide) (by kernel_rfl) (by kernel_rfl)) (kw [0,3,4] [1003] [(0,rs43 a0),(3,.row 1003),(4,vi 0)] [(1003,84,[rc48 []])] (Wp.loopL (ok_law35_Events_o_l1 n a0 n ([]:List (S_host_Event)) 0 o1 ho1 (To.blockX (To.thenN (Wp.seq (rg [2] [1003] [(2,.row 1003)] [(1003,84,[rc48 o1])] (To.thenN (Wp.ret ?_))))))))))
 refine nt [2] [1003] [(1003,1002)] [2] [1002] [(2,.row 1002)] [(1002,84,[rc48 o1])] (To.pre (St.rename 1002 1 (by decide) (K':=[(2,.row 1)]) (L':=[(1,84,[rc48 o1])]) (by kernel_rfl) (by kernel_rfl) (by kernel_rfl)) ?_)
 cases h
 exact To.doneB hΓ [1] (by kernel_rfl) (by kernel_rfl)
def law35_HostParts_l1 (n:Nat) (v0:List (S_fault_Gap)) (v1:List (S_law35_Deed)) (v2:Int) (v3:Int):Nat → Int → Option (Sum (Unit) (Bool))
 | 0,_=>none
 | k + 1,v9=>if (decide (v9 < (List.length v1:Int))) = true then (if (decide (0 ≤ v9 ∧ v9 < (List.length v1:Int))) = true then (lett ((bif (decide ((((v1)[Int.toNat v9]?.getD Z_law35_Deed).f_Call.f_Spec.f_Health.f_Every) < 20)) then (decide ((IntKind.wrap .i64 (v2 + v3)) > 200)) else false):Bool) fun x5 =>
 if x5 = true then ((law35_awake n).bind fun r6 =>
 some (.inr r6))
 else (law35_HostParts_l1 n v0 v1 v2 v3 k (IntKind.wrap .i64 (v9 + 1)))) else none)
 else (some (.inl ()))
theorem ok_law35_HostParts_l1 (n:Nat) (v0:List (S_fault_Gap)) (v1:List (S_law35_Deed)) (v2:Int) (v3:Int) {F0:Fz} {w0:Pt Tryz.prog} {Q:Exit → Act → World → Prop} (k:Nat):∀ (v9:Int) (o:Sum (Unit) (Bool)),law35_HostParts_l1 n v0 v1 v2 v3 k v9 = some o → (Sum.elim (fun s=>To 150 F0 w0 [(0,rs32 v0),(1,rs45 v1),(2,vi v2),(3,vi v3)] [] (.exit 0) Q) (fun s=>To 150 F0 w0 [(8,vb s)] [] .ret Q)) o → WL Tryz.prog 150 F0 w0 [(0,rs32 v0),(1,rs45 v1),(2,vi v2),(3,vi v3),(9,vi v9)] [] (cI (cI (cB (cA (cB (cB (cF Tryz.f5))))))) Q:=by
 induction k with
 | zero=>intro v9 o h; cases h
 | succ k ih =>
  intro v9 o h hQ
  rw [law35_HostParts_l1] at h
  refine WL.round (Wp.seq (Wp.seq (rg [0,1,2,3,9,43] [] [(0,rs32 v0),(1,rs45 v1),(2,vi v2),(3,vi v3),(9,vi v9),(43,vb (decide (v9 < (List.length v1:Int))))] [] (To.thenN (cn h (fun h=>?_) (fun h=>?_))))))
  ·refine Wp.skip (To.thenN (Wp.seq (Wp.block (Wp.seq ?_))))
   obtain ⟨hc7,h⟩:=chk_of h
   obtain ⟨x5,hx5,h⟩:=lett_of h
   refine r0 [0,1,2,3,9,60] [] [(0,rs32 v0),(1,rs45 v1),(2,vi v2),(3,vi v3),(9,vi v9),(60,vb (bif (decide ((ex71 v1 v9) < 20)) then (decide ((IntKind.wrap .i64 (v2 + v3)) > 200)) else false))] [] (AllP.cons hc7 AllP.nil) (To.eq (K':=[(0,rs32 v0),(1,rs45 v1),(2,vi v2),(3,vi v3),(9,vi v9),(60,vb x5)]) (L':=[]) (by cases hx5; rfl) (by cases hx5; rfl) (To.thenN (cn h (fun h=>?_) (fun h=>?_))))
   ·refine Wp.seq ?_
    obtain ⟨r6,hr6,h⟩:=bind_of h
    refine rc [] 0 [8] [] [(8,vb r6)] [] (ok_law35_awake n  _ hr6) (To.thenN (Wp.ret (To.blockR (To.thenR (To.thenR ?_)))))
    cases h
    exact hQ
   ·refine Wp.skip (To.blockN (To.thenN (rg [0,1,2,3,9] [] [(0,rs32 v0),(1,rs45 v1),(2,vi v2),(3,vi v3),(9,vi (IntKind.wrap .i64 (v9 + 1)))] [] (kt [0,1,2,3,9] [] [(0,rs32 v0),(1,rs45 v1),(2,vi v2),(3,vi v3),(9,vi (IntKind.wrap .i64 (v9 + 1)))] [] (To.again ?_)))))
    exact ih (IntKind.wrap .i64 (v9 + 1)) _ h hQ
  ·refine Wp.exit (To.thenX (To.thenX (kt [0,1,2,3] [] [(0,rs32 v0),(1,rs45 v1),(2,vi v2),(3,vi v3)] [] ?_)))
   cases h
   exact hQ
def law35_HostParts_l2 (n:Nat) (v12:List (S_host_Event)):Nat → Int → Option (Sum (Unit) (Bool))
 | 0,_=>none
 | k + 1,v14=>if (decide (v14 < (List.length v12:Int))) = true then (if (decide (0 ≤ (IntKind.wrap .i64 (v14 - 1)) ∧ (IntKind.wrap .i64 (v14 - 1)) < (List.length v12:Int))) = true then (if (decide (0 ≤ v14 ∧ v14 < (List.length v12:Int))) = true then (if ((!((decide ((((v12)[Int.toNat (IntKind.wrap .i64 (v14 - 1))]?.getD (S_host_Event.mk 0 0 0 0)).f_At) > (((v12)[Int.toNat v14]?.getD (S_host_Event.mk 0 0 0 0)).f_At))) == false) || decide (0 ≤ (IntKind.wrap .i64 (v14 - 1)) ∧ (IntKind.wrap .i64 (v14 - 1)) < (List.length v12:Int)))) = true then (if ((!((decide ((((v12)[Int.toNat (IntKind.wrap .i64 (v14 - 1))]?.getD (S_host_Event.mk 0 0 0 0)).f_At) > (((v12)[Int.toNat v14]?.getD (S_host_Event.mk 0 0 0 0)).f_At))) == false) || decide (0 ≤ v14 ∧ v14 < (List.length v12:Int)))) = true then (if ((!((((((v12)[Int.toNat (IntKind.wrap .i64 (v14 - 1))]?.getD (S_host_Event.mk 0 0 0 0)).f_At) == (((v12)[Int.toNat v14]?.getD (S_host_Event.mk 0 0 0 0)).f_At)) == true) && ((decide ((((v12)[Int.toNat (IntKind.wrap .i64 (v14 - 1))]?.getD (S_host_Event.mk 0 0 0 0)).f_At) > (((v12)[Int.toNat v14]?.getD (S_host_Event.mk 0 0 0 0)).f_At))) == false)) || decide (0 ≤ (IntKind.wrap .i64 (v14 - 1)) ∧ (IntKind.wrap .i64 (v14 - 1)) < (List.length v12:Int)))) = true then (if ((!((((((v12)[Int.toNat (IntKind.wrap .i64 (v14 - 1))]?.getD (S_host_Event.mk 0 0 0 0)).f_At) == (((v12)[Int.toNat v14]?.getD (S_host_Event.mk 0 0 0 0)).f_At)) == true) && ((decide ((((v12)[Int.toNat (IntKind.wrap .i64 (v14 - 1))]?.getD (S_host_Event.mk 0 0 0 0)).f_At) > (((v12)[Int.toNat v14]?.getD (S_host_Event.mk 0 0 0 0)).f_At))) == false)) || decide (0 ≤ v14 ∧ v14 < (List.length v12:Int)))) = true then (lett ((bif (decide ((((v12)[Int.toNat (IntKind.wrap .i64 (v14 - 1))]?.getD (S_host_Event.mk 0 0 0 0)).f_At) > (((v12)[Int.toNat v14]?.getD (S_host_Event.mk 0 0 0 0)).f_At))) then true else (bif ((((v12)[Int.toNat (IntKind.wrap .i64 (v14 - 1))]?.getD (S_host_Event.mk 0 0 0 0)).f_At) == (((v12)[Int.toNat v14]?.getD (S_host_Event.mk 0 0 0 0)).f_At)) then (decide ((((v12)[Int.toNat (IntKind.wrap .i64 (v14 - 1))]?.getD (S_host_Event.mk 0 0 0 0)).f_Id) > (((v12)[Int.toNat v14]?.getD (S_host_Event.mk 0 0 0 0)).f_Id))) else false)):Bool) fun x20 =>
 if x20 = true then (some (.inr false))
 else (law35_HostParts_l2 n v12 k (IntKind.wrap .i64 (v14 + 1)))) else none) else none) else none) else none) else none) else none)
 else (some (.inl ()))
abbrev ex66 (x0:List (S_host_Event)) (x1:Int):=(((x0)[Int.toNat (IntKind.wrap .i64 (x1 - 1))]?.getD zx41).f_At)
abbrev ex67 (x0:Int) (x1:List (S_host_Event)):=(0 ≤ (IntKind.wrap .i64 (x0 - 1)) ∧ (IntKind.wrap .i64 (x0 - 1)) < (List.length x1:Int))
abbrev ex75 (x0:List (S_host_Event)) (x1:Int):=((decide ((ex66 x0 x1) > ((ex50 x0 x1).f_At))) == false)
abbrev ex76 (x0:List (S_host_Event)) (x1:Int):=((((ex66 x0 x1) == ((ex50 x0 x1).f_At)) == true) && (ex75 x0 x1))
theorem ok_law35_HostParts_l2 (n:Nat) (v12:List (S_host_Event)) {F0:Fz} {w0:Pt Tryz.prog} {Q:Exit → Act → World → Prop} (k:Nat):∀ (v14:Int) (o:Sum (Unit) (Bool)),law35_HostParts_l2 n v12 k v14 = some o → (Sum.elim (fun s=>To 150 F0 w0 [] [] (.exit 2) Q) (fun s=>To 150 F0 w0 [(8,vb s)] [] .ret Q)) o → WL Tryz.prog 150 F0 w0 [(12,.row 1012),(14,vi v14)] [(1012,84,[rc48 v12])] (cI (cI (cB (cA (cB (cB (cB (cB (cB (cB (cB (cB (cF Tryz.f5))))))))))))) Q:=by
 induction k with
 | zero=>intro v14 o h; cases h
 | succ k ih =>
  intro v14 o h hQ
  rw [law35_HostParts_l2] at h
  refine WL.round (Wp.seq (Wp.seq (rg [12,14,106] [1012] [(12,.row 1012),(14,vi v14),(106,vb (ex52 v14 v12))] [(1012,84,[rc48 v12])] (To.thenN (cn h (fun h=>?_) (fun h=>?_))))))
  ·refine Wp.skip (To.thenN (Wp.seq (Wp.block (Wp.seq ?_))))
   obtain ⟨hc21,h⟩:=chk_of h
   obtain ⟨hc22,h⟩:=chk_of h
   obtain ⟨hc23,h⟩:=chk_of h
   obtain ⟨hc24,h⟩:=chk_of h
   obtain ⟨hc25,h⟩:=chk_of h
   obtain ⟨hc26,h⟩:=chk_of h
   obtain ⟨x20,hx20,h⟩:=lett_of h
   refine Wp.regionD hm hΓ [] [12,14,148] [1012] (K':=[(12,.row 1012),(14,vi v14),(148,vb (bif (decide ((ex66 v12 v14) > ((ex50 v12 v14).f_At))) then true else (bif ((ex66 v12 v14) == ((ex50 v12 v14).f_At)) then (decide ((((v12)[Int.toNat (IntKind.wrap .i64 (v14 - 1))]?.getD zx41).f_Id) > ((ex50 v12 v14).f_Id))) else false)))]) (L':=[(1012,84,[rc48 v12])]) (ob:=[(decide (ex67 v14 v12)) = true,(decide (ex67 v14 v12)) = true,(decide (ex51 v14 v12)) = true,(decide (ex51 v14 v12)) = true,(!(ex75 v12 v14) || decide (ex67 v14 v12)) = true,(!(ex75 v12 v14) || decide (ex67 v14 v12)) = true,(!(ex75 v12 v14) || decide (ex51 v14 v12)) = true,(!(ex75 v12 v14) || decide (ex51 v14 v12)) = true,(!(ex76 v12 v14) || decide (ex67 v14 v12)) = true,(!(ex76 v12 v14) || decide (ex67 v14 v12)) = true,(!(ex76 v12 v14) || decide (ex51 v14 v12)) = true,(!(ex76 v12 v14) || decide (ex51 v14 v12)) = true]) (by kernel_rfl) (AllP.cons hc21 (AllP.cons hc21 (AllP.cons hc22 (AllP.cons hc22 (AllP.cons hc23 (AllP.cons hc23 (AllP.cons hc24 (AllP.cons hc24 (AllP.cons hc25 (AllP.cons hc25 (AllP.cons hc26 (AllP.cons hc26 AllP.nil)))))))))))) (To.eq (K':=[(12,.row 1012),(14,vi v14),(148,vb x20)]) (L':=[(1012,84,[rc48 v12])]) (by cases hx20; rfl) (by cases hx20; rfl) (To.thenN (cn h (fun h=>?_) (fun h=>?_))))
   ·refine Wp.seq (rg [8] [] [(8,vb false)] [] (To.thenN (Wp.ret (To.blockR (To.thenR (To.thenR ?_))))))
    cases h
    exact hQ
   ·refine Wp.skip (To.blockN (To.thenN (rg [12,14] [1012] [(12,.row 1012),(14,vi (IntKind.wrap .i64 (v14 + 1)))] [(1012,84,[rc48 v12])] (kt [12,14] [1012] [(12,.row 1012),(14,vi (IntKind.wrap .i64 (v14 + 1)))] [(1012,84,[rc48 v12])] (To.again ?_)))))
    exact ih (IntKind.wrap .i64 (v14 + 1)) _ h hQ
  ·refine Wp.exit (To.thenX (To.thenX (kt [] [] [] [] ?_)))
   cases h
   exact hQ
def law35_HostParts (n:Nat) (a0:List (S_fault_Gap)) (a1:List (S_law35_Deed)) (a2:Int) (a3:Int):Option (Bool) :=
 (law34_Small n a0).bind fun r1 =>
 ((if ((!r1) == false) = true then law35_Few n a1 40 else some false)).bind fun r2 =>
 lett ((bif (bif (bif (bif (bif (!r1) then true else (!r2)) then true else (decide (a2 < 0))) then true else (decide (a3 < 0))) then true else (decide (a2 > 3000))) then true else (decide (a3 > 3000))):Bool) fun x3 =>
 if x3 = true then ((law35_awake n).bind fun r4 =>
 some r4)
 else ((law35_HostParts_l1 n a0 a1 a2 a3 n 0).bind fun o5 =>
 (Sum.elim (fun o5=>(law35_played_o n a0 a1).bind fun r6 =>
 (law35_played_o n a0 a1).bind fun r7 =>
 (host_Host_Tick_o__o0 n (IntKind.wrap .i64 (a2 + a3)) r6).bind fun r8 =>
 (law35_Events_o n r8.1).bind fun r9 =>
 (host_Host_Tick_o__o0 n a2 r7).bind fun r10 =>
 (law35_Events_o n r10.1).bind fun r11 =>
 (host_Host_Tick_o__o0 n a3 r10.2).bind fun r12 =>
 (law35_Events_o n r12.1).bind fun r13 =>
 if (decide ((List.length r11 + List.length r13) * (32 + 1) ≤ limit)) = true then ((ref35_Same n r9 (r11 ++ r13)).bind fun r14 =>
 lett ((if ((!r14) == false) = true then host_Host_Now__o0 r8.2 else (0,r8.2))) fun r15 =>
 lett ((if ((!r14) == false) = true then host_Host_Now__o0 r12.2 else (0,r12.2))) fun r16 =>
 ((if ((bif (!r14) then true else (r15.1 != r16.1)) == false) = true then host_Host_Boxes__o0 n r15.2 else some ([],r15.2))).bind fun r17 =>
 ((if ((bif (!r14) then true else (r15.1 != r16.1)) == false) = true then host_Host_Boxes__o0 n r16.2 else some ([],r16.2))).bind fun r18 =>
 ((if ((bif (!r14) then true else (r15.1 != r16.1)) == false) = true then law33_SameBoxes n r17.1 r18.1 else some false)).bind fun r19 =>
 if (bif (bif (!r14) then true else (r15.1 != r16.1)) then true else (!r19)) = true then some false
 else ((law35_HostParts_l2 n r9 n 1).bind fun o20 =>
 (Sum.elim (fun o20=>(law35_awake n).bind fun r21 =>
 some r21) (fun o20=>some o20)) o20)) else none) (fun o5=>some o5)) o5)
end Go.Proofs.YtaecmkldkljioaaGreat.M
