import Derived.Test.YtaecmkldkljioaaGreatQM35i
set_option linter.all false
namespace Go.Proofs.YtaecmkldkljioaaGreat.M
open Go.RowKit Go.Proofs.YtaecmkldkljioaaGreat.RX
set_option maxRecDepth 100000
theorem ok_law35_HostParts (n:Nat) (a0:List (S_fault_Gap)) (a1:List (S_law35_Deed)) (a2:Int) (a3:Int) (r:Bool) (h:law35_HostParts n a0 a1 a2 a3 = some r):CallsX Tryz.prog 5 [rs32 a0,rs45 a1,vi a2,vi a3] (vb r):=by
 unfold law35_HostParts at h
 refine xo Tryz.f5 rfl fun F0 w0 _=>?_
 refine Wp.seq (rg [0,1,2,3] [] [(0,rs32 a0),(1,rs45 a1),(2,vi a2),(3,vi a3)] [] (To.thenN (Wp.seq (Wp.seq ?_))))
 obtain ⟨r1,hr1,h⟩:=bind_of h
 obtain ⟨r2,hr2,h⟩:=bind_of h
 obtain ⟨x3,hx3,h⟩:=lett_of h
 refine rr [] [(1,vb r1),(5,vb r2)] [] [0,1,2,3,38] [] [(0,rs32 a0),(1,rs45 a1),(2,vi a2),(3,vi a3),(38,vb (bif (bif (bif (bif (bif (!r1) then true else (!r2)) then true else (decide (a2 < 0))) then true else (decide (a3 < 0))) then true else (decide (a2 > 3000))) then true else (decide (a3 > 3000))))] [] [_,(((!r1) == false) = true → CX Tryz.prog 35 [rs45 a1,vi 40] (vb r2))] (AllP.cons (c1 (ok_law34_Small n a0 _ hr1)) (AllP.cons (fun hg=>cx (ok_law35_Few n a1 40 _ (if_t hg hr2))) AllP.nil)) (To.eq (K':=[(0,rs32 a0),(1,rs45 a1),(2,vi a2),(3,vi a3),(38,vb x3)]) (L':=[]) (by cases hx3; rfl) (by cases hx3; rfl) (To.thenN (cn h (fun h=>?_) (fun h=>?_))))
 ·refine Wp.seq ?_
  obtain ⟨r4,hr4,h⟩:=bind_of h
  refine rc [] 0 [8] [] [(8,vb r4)] [] (ok_law35_awake n  _ hr4) (To.thenN (Wp.ret (To.thenR ?_)))
  cases h
  exact To.done hΓ (by kernel_rfl)
 ·refine Wp.skip (To.thenN (Wp.seq (Wp.seq (rg [0,1,2,3,9] [] [(0,rs32 a0),(1,rs45 a1),(2,vi a2),(3,vi a3),(9,vi 0)] [] (To.thenN (Wp.block ?_))))))
  obtain ⟨o5,ho5,h⟩:=bind_of h
  refine kw [0,1,2,3,9] [] [(0,rs32 a0),(1,rs45 a1),(2,vi a2),(3,vi a3),(9,vi 0)] [] (Wp.loopL (ok_law35_HostParts_l1 n a0 a1 a2 a3 n 0 o5 ho5 ?_))
  rcases o5 with o5 | o5
  ·replace h:=sum_l h
   refine To.blockX (To.thenN (Wp.seq ?_))
   obtain ⟨r6,hr6,h⟩:=bind_of h
   obtain ⟨r7,hr7,h⟩:=bind_of h
   refine rr [] [] [(2,⟨[],[(1,64),(2,702562),(3,702563),(4,702564),(5,702565)],[rs32 a0,rs45 a1],[],.own 1 0,(qh39 1 2 3 4 5 r6)⟩),(5,⟨[],[(1,67),(2,702682),(3,702683),(4,702684),(5,702685)],[rs32 a0,rs45 a1],[],.own 1 0,(qh39 1 2 3 4 5 r7)⟩)] [2,3,10,11] [64,67,702562,702563,702564,702565,702682,702683,702684,702685] [(2,vi a2),(3,vi a3),(10,.own 64 0),(11,.own 67 0)] ((64,139,[.own 702562 0,rs33 r6.f_plan.f_l,vi r6.f_plan.f_more,vi r6.f_now])::(67,139,[.own 702682 0,rs33 r7.f_plan.f_l,vi r7.f_plan.f_more,vi r7.f_now])::(702562,109,[.mp 702563,.mp 702564,.mp 702565,vi r6.f_Store.f_last])::(702563,105,[mc3 r6.f_Store.f_boxes])::(702564,107,[mc4 r6.f_Store.f_nets])::(702565,107,[mc4 r6.f_Store.f_vols])::qf5 702682 702683 702684 702685 r7.f_Store) [CbOb (CallsB Tryz.prog) 36 [rs32 a0,rs45 a1] [] ⟨[],[(1,64),(2,702562),(3,702563),(4,702564),(5,702565)],[rs32 a0,rs45 a1],[],.own 1 0,(qh39 1 2 3 4 5 r6)⟩,CbOb (CallsB Tryz.prog) 36 [rs32 a0,rs45 a1] [] ⟨[],[(1,67),(2,702682),(3,702683),(4,702684),(5,702685)],[rs32 a0,rs45 a1],[],.own 1 0,(qh39 1 2 3 4 5 r7)⟩] (AllP.cons (⟨(ok_law35_played_o n a0 a1 _ hr6),by kernel_rfl,by kernel_rfl⟩) (AllP.cons (⟨(ok_law35_played_o n a0 a1 _ hr7),by kernel_rfl,by kernel_rfl⟩) AllP.nil)) ?_
   refine To.thenN (Wp.seq ?_)
   obtain ⟨r8,hr8,h⟩:=bind_of h
   obtain ⟨r9,hr9,h⟩:=bind_of h
   refine rr [(5,[72])] [] [(4,⟨[(1000000,64),(1010060,702562),(1010061,702563),(1010062,702564),(1010063,702565)],[(1,72),(1000000,64),(1010060,702562),(1010061,702563),(1010062,702564),(1010063,702565)],[.own 1000000 0,vi (IntKind.wrap .i64 (a2 + a3))],(qh39 1000000 1010060 1010061 1010062 1010063 r6),.row 1,((1,137,[rc42 r8.1])::qh39 1000000 1010060 1010061 1010062 1010063 r8.2)⟩),(5,⟨[],[(1,73)],[rs43 r8.1],[],.row 1,[(1,84,[rc48 r9])]⟩)] [2,3,10,11,12] [64,67,73,702562,702563,702564,702565,702682,702683,702684,702685] [(2,vi a2),(3,vi a3),(10,.own 64 0),(11,.own 67 0),(12,.row 73)] ((64,139,[.own 702562 0,rs33 r8.2.f_plan.f_l,vi r8.2.f_plan.f_more,vi r8.2.f_now])::(67,139,[.own 702682 0,rs33 r7.f_plan.f_l,vi r7.f_plan.f_more,vi r7.f_now])::(73,84,[rc48 r9])::(702562,109,[.mp 702563,.mp 702564,.mp 702565,vi r8.2.f_Store.f_last])::(702563,105,[mc3 r8.2.f_Store.f_boxes])::(702564,107,[mc4 r8.2.f_Store.f_nets])::(702565,107,[mc4 r8.2.f_Store.f_vols])::qf5 702682 702683 702684 702685 r7.f_Store) [CbOb (CallsB Tryz.prog) 38 [.own 64 0,vi (IntKind.wrap .i64 (a2 + a3))] (ph40 702562 702563 702564 702565 r6) ⟨[(1000000,64),(1010060,702562),(1010061,702563),(1010062,702564),(1010063,702565)],[(1,72),(1000000,64),(1010060,702562),(1010061,702563),(1010062,702564),(1010063,702565)],[.own 1000000 0,vi (IntKind.wrap .i64 (a2 + a3))],(qh39 1000000 1010060 1010061 1010062 1010063 r6),.row 1,((1,137,[rc42 r8.1])::qh39 1000000 1010060 1010061 1010062 1010063 r8.2)⟩,CbOb (CallsB Tryz.prog) 37 [rs43 r8.1] [] ⟨[],[(1,73)],[rs43 r8.1],[],.row 1,[(1,84,[rc48 r9])]⟩] (AllP.cons (⟨(ok_host_Host_Tick_o__o0 n (IntKind.wrap .i64 (a2 + a3)) r6 _ hr8),by kernel_rfl,by kernel_rfl⟩) (AllP.cons (⟨(ok_law35_Events_o n r8.1 _ hr9),by kernel_rfl,by kernel_rfl⟩) AllP.nil)) ?_
   refine To.thenN (Wp.seq ?_)
   obtain ⟨r10,hr10,h⟩:=bind_of h
   obtain ⟨r11,hr11,h⟩:=bind_of h
   refine rr [(3,[76])] [] [(2,⟨[(1000000,67),(1010060,702682),(1010061,702683),(1010062,702684),(1010063,702685)],[(1,76),(1000000,67),(1010060,702682),(1010061,702683),(1010062,702684),(1010063,702685)],[.own 1000000 0,vi a2],(qh39 1000000 1010060 1010061 1010062 1010063 r7),.row 1,((1,137,[rc42 r10.1])::qh39 1000000 1010060 1010061 1010062 1010063 r10.2)⟩),(3,⟨[],[(1,77)],[rs43 r10.1],[],.row 1,[(1,84,[rc48 r11])]⟩)] [3,10,11,12,13] [64,67,73,77,702562,702563,702564,702565,702682,702683,702684,702685] [(3,vi a3),(10,.own 64 0),(11,.own 67 0),(12,.row 73),(13,.row 77)] ((64,139,[.own 702562 0,rs33 r8.2.f_plan.f_l,vi r8.2.f_plan.f_more,vi r8.2.f_now])::(67,139,[.own 702682 0,rs33 r10.2.f_plan.f_l,vi r10.2.f_plan.f_more,vi r10.2.f_now])::(73,84,[rc48 r9])::(77,84,[rc48 r11])::(702562,109,[.mp 702563,.mp 702564,.mp 702565,vi r8.2.f_Store.f_last])::(702563,105,[mc3 r8.2.f_Store.f_boxes])::(702564,107,[mc4 r8.2.f_Store.f_nets])::(702565,107,[mc4 r8.2.f_Store.f_vols])::qf5 702682 702683 702684 702685 r10.2.f_Store) [CbOb (CallsB Tryz.prog) 38 [.own 67 0,vi a2] (ph40 702682 702683 702684 702685 r7) ⟨[(1000000,67),(1010060,702682),(1010061,702683),(1010062,702684),(1010063,702685)],[(1,76),(1000000,67),(1010060,702682),(1010061,702683),(1010062,702684),(1010063,702685)],[.own 1000000 0,vi a2],(qh39 1000000 1010060 1010061 1010062 1010063 r7),.row 1,((1,137,[rc42 r10.1])::qh39 1000000 1010060 1010061 1010062 1010063 r10.2)⟩,CbOb (CallsB Tryz.prog) 37 [rs43 r10.1] [] ⟨[],[(1,77)],[rs43 r10.1],[],.row 1,[(1,84,[rc48 r11])]⟩] (AllP.cons (⟨(ok_host_Host_Tick_o__o0 n a2 r7 _ hr10),by kernel_rfl,by kernel_rfl⟩) (AllP.cons (⟨(ok_law35_Events_o n r10.1 _ hr11),by kernel_rfl,by kernel_rfl⟩) AllP.nil)) ?_
   refine To.thenN (Wp.seq ?_)
   obtain ⟨r12,hr12,h⟩:=bind_of h
   obtain ⟨r13,hr13,h⟩:=bind_of h
   obtain ⟨hc22,h⟩:=chk_of h
   refine rr [(4,[81])] [(5,rs49 (r11 ++ r13))] [(3,⟨[(1000000,67),(1010060,702682),(1010061,702683),(1010062,702684),(1010063,702685)],[(1,81),(1000000,67),(1010060,702682),(1010061,702683),(1010062,702684),(1010063,702685)],[.own 1000000 0,vi a3],(qh39 1000000 1010060 1010061 1010062 1010063 r10.2),.row 1,((1,137,[rc42 r12.1])::qh39 1000000 1010060 1010061 1010062 1010063 r12.2)⟩),(4,⟨[],[(1,82)],[rs43 r12.1],[],.row 1,[(1,84,[rc48 r13])]⟩)] [10,11,12,13] [64,67,73,83,702562,702563,702564,702565,702682,702683,702684,702685] [(10,.own 64 0),(11,.own 67 0),(12,.row 73),(13,.row 83)] ((64,139,[.own 702562 0,rs33 r8.2.f_plan.f_l,vi r8.2.f_plan.f_more,vi r8.2.f_now])::(67,139,[.own 702682 0,rs33 r12.2.f_plan.f_l,vi r12.2.f_plan.f_more,vi r12.2.f_now])::(73,84,[rc48 r9])::(83,84,[rc48 (r11 ++ r13)])::(702562,109,[.mp 702563,.mp 702564,.mp 702565,vi r8.2.f_Store.f_last])::(702563,105,[mc3 r8.2.f_Store.f_boxes])::(702564,107,[mc4 r8.2.f_Store.f_nets])::(702565,107,[mc4 r8.2.f_Store.f_vols])::qf5 702682 702683 702684 702685 r12.2.f_Store) [CbOb (CallsB Tryz.prog) 38 [.own 67 0,vi a3] (ph40 702682 702683 702684 702685 r10.2) ⟨[(1000000,67),(1010060,702682),(1010061,702683),(1010062,702684),(1010063,702685)],[(1,81),(1000000,67),(1010060,702682),(1010061,702683),(1010062,702684),(1010063,702685)],[.own 1000000 0,vi a3],(qh39 1000000 1010060 1010061 1010062 1010063 r10.2),.row 1,((1,137,[rc42 r12.1])::qh39 1000000 1010060 1010061 1010062 1010063 r12.2)⟩,CbOb (CallsB Tryz.prog) 37 [rs43 r12.1] [] ⟨[],[(1,82)],[rs43 r12.1],[],.row 1,[(1,84,[rc48 r13])]⟩,_,(AppOb zx41 E_ref35_Event r11 (List.flatMap E_ref35_Event r13) (List.length r13) (rs49 (r11 ++ r13)) ∧ GoodR (rs49 (r11 ++ r13)))] (AllP.cons (⟨(ok_host_Host_Tick_o__o0 n a3 r10.2 _ hr12),by kernel_rfl,by kernel_rfl⟩) (AllP.cons (⟨(ok_law35_Events_o n r12.1 _ hr13),by kernel_rfl,by kernel_rfl⟩) (AllP.cons hc22 (AllP.cons (appOb rfl rfl (good_E_ref35_Event _)) AllP.nil)))) ?_
   refine To.thenN (Wp.seq (Wp.seq ?_))
   obtain ⟨r14,hr14,h⟩:=bind_of h
   obtain ⟨r15,hr15,h⟩:=lett_of h
   obtain ⟨r16,hr16,h⟩:=lett_of h
   obtain ⟨r17,hr17,h⟩:=bind_of h
   obtain ⟨r18,hr18,h⟩:=bind_of h
   obtain ⟨r19,hr19,h⟩:=bind_of h
   refine rr [] [(16,vb r19)] [(2,⟨[(1000000,73),(1000001,83)],[(1000000,73),(1000001,83)],[.row 1000000,.row 1000001],[(1000000,84,[rc48 r9]),(1000001,84,[rc48 (r11 ++ r13)])],vb r14,[(1000000,84,[rc48 r9]),(1000001,84,[rc48 (r11 ++ r13)])]⟩),(6,⟨[(1000000,64),(1010060,702562),(1010061,702563),(1010062,702564),(1010063,702565)],[(1000000,64),(1010060,702562),(1010061,702563),(1010062,702564),(1010063,702565)],[.own 1000000 0],(qh39 1000000 1010060 1010061 1010062 1010063 r8.2),vi r15.1,(qh39 1000000 1010060 1010061 1010062 1010063 r15.2)⟩),(8,⟨[(1000000,67),(1010060,702682),(1010061,702683),(1010062,702684),(1010063,702685)],[(1000000,67),(1010060,702682),(1010061,702683),(1010062,702684),(1010063,702685)],[.own 1000000 0],(qh39 1000000 1010060 1010061 1010062 1010063 r12.2),vi r16.1,(qh39 1000000 1010060 1010061 1010062 1010063 r16.2)⟩),(13,⟨[(1000000,64),(1010060,702562),(1010061,702563),(1010062,702564),(1010063,702565)],[(1000000,64),(1010060,702562),(1010061,702563),(1010062,702564),(1010063,702565)],[.own 1000000 0],(qh39 1000000 1010060 1010061 1010062 1010063 r15.2),rs29 r17.1,(qh39 1000000 1010060 1010061 1010062 1010063 r17.2)⟩),(15,⟨[(1000000,67),(1010060,702682),(1010061,702683),(1010062,702684),(1010063,702685)],[(1000000,67),(1010060,702682),(1010061,702683),(1010062,702684),(1010063,702685)],[.own 1000000 0],(qh39 1000000 1010060 1010061 1010062 1010063 r16.2),rs29 r18.1,(qh39 1000000 1010060 1010061 1010062 1010063 r18.2)⟩)] [12,102] [73] [(12,.row 73),(102,vb (bif (bif (!r14) then true else (r15.1 != r16.1)) then true else (!r19)))] [(73,84,[rc48 r9])] [CbOb (CallsB Tryz.prog) 39 [.row 73,.row 83] [some (84,[rc48 r9]),some (84,[rc48 (r11 ++ r13)])] ⟨[(1000000,73),(1000001,83)],[(1000000,73),(1000001,83)],[.row 1000000,.row 1000001],[(1000000,84,[rc48 r9]),(1000001,84,[rc48 (r11 ++ r13)])],vb r14,[(1000000,84,[rc48 r9]),(1000001,84,[rc48 (r11 ++ r13)])]⟩,(((!r14) == false) = true → CbOb (CallsB Tryz.prog) 40 [.own 64 0] (ph40 702562 702563 702564 702565 r8.2) ⟨[(1000000,64),(1010060,702562),(1010061,702563),(1010062,702564),(1010063,702565)],[(1000000,64),(1010060,702562),(1010061,702563),(1010062,702564),(1010063,702565)],[.own 1000000 0],(qh39 1000000 1010060 1010061 1010062 1010063 r8.2),vi r15.1,(qh39 1000000 1010060 1010061 1010062 1010063 r15.2)⟩),(((!r14) == false) = false → KeepOb (qh39 64 702562 702563 702564 702565 r8.2) ⟨[(1000000,64),(1010060,702562),(1010061,702563),(1010062,702564),(1010063,702565)],[(1000000,64),(1010060,702562),(1010061,702563),(1010062,702564),(1010063,702565)],[.own 1000000 0],(qh39 1000000 1010060 1010061 1010062 1010063 r8.2),vi r15.1,(qh39 1000000 1010060 1010061 1010062 1010063 r15.2)⟩),(((!r14) == false) = true → CbOb (CallsB Tryz.prog) 40 [.own 67 0] (ph40 702682 702683 702684 702685 r12.2) ⟨[(1000000,67),(1010060,702682),(1010061,702683),(1010062,702684),(1010063,702685)],[(1000000,67),(1010060,702682),(1010061,702683),(1010062,702684),(1010063,702685)],[.own 1000000 0],(qh39 1000000 1010060 1010061 1010062 1010063 r12.2),vi r16.1,(qh39 1000000 1010060 1010061 1010062 1010063 r16.2)⟩),(((!r14) == false) = false → KeepOb (qh39 67 702682 702683 702684 702685 r12.2) ⟨[(1000000,67),(1010060,702682),(1010061,702683),(1010062,702684),(1010063,702685)],[(1000000,67),(1010060,702682),(1010061,702683),(1010062,702684),(1010063,702685)],[.own 1000000 0],(qh39 1000000 1010060 1010061 1010062 1010063 r12.2),vi r16.1,(qh39 1000000 1010060 1010061 1010062 1010063 r16.2)⟩),(((bif (!r14) then true else (r15.1 != r16.1)) == false) = true → CbOb (CallsB Tryz.prog) 31 [.own 64 0] (ph40 702562 702563 702564 702565 r15.2) ⟨[(1000000,64),(1010060,702562),(1010061,702563),(1010062,702564),(1010063,702565)],[(1000000,64),(1010060,702562),(1010061,702563),(1010062,702564),(1010063,702565)],[.own 1000000 0],(qh39 1000000 1010060 1010061 1010062 1010063 r15.2),rs29 r17.1,(qh39 1000000 1010060 1010061 1010062 1010063 r17.2)⟩),(((bif (!r14) then true else (r15.1 != r16.1)) == false) = false → KeepOb (qh39 64 702562 702563 702564 702565 r15.2) ⟨[(1000000,64),(1010060,702562),(1010061,702563),(1010062,702564),(1010063,702565)],[(1000000,64),(1010060,702562),(1010061,702563),(1010062,702564),(1010063,702565)],[.own 1000000 0],(qh39 1000000 1010060 1010061 1010062 1010063 r15.2),rs29 r17.1,(qh39 1000000 1010060 1010061 1010062 1010063 r17.2)⟩),(((bif (!r14) then true else (r15.1 != r16.1)) == false) = true → CbOb (CallsB Tryz.prog) 31 [.own 67 0] (ph40 702682 702683 702684 702685 r16.2) ⟨[(1000000,67),(1010060,702682),(1010061,702683),(1010062,702684),(1010063,702685)],[(1000000,67),(1010060,702682),(1010061,702683),(1010062,702684),(1010063,702685)],[.own 1000000 0],(qh39 1000000 1010060 1010061 1010062 1010063 r16.2),rs29 r18.1,(qh39 1000000 1010060 1010061 1010062 1010063 r18.2)⟩),(((bif (!r14) then true else (r15.1 != r16.1)) == false) = false → KeepOb (qh39 67 702682 702683 702684 702685 r16.2) ⟨[(1000000,67),(1010060,702682),(1010061,702683),(1010062,702684),(1010063,702685)],[(1000000,67),(1010060,702682),(1010061,702683),(1010062,702684),(1010063,702685)],[.own 1000000 0],(qh39 1000000 1010060 1010061 1010062 1010063 r16.2),rs29 r18.1,(qh39 1000000 1010060 1010061 1010062 1010063 r18.2)⟩),(((bif (!r14) then true else (r15.1 != r16.1)) == false) = true → CX Tryz.prog 14 [rs29 r17.1,rs29 r18.1] (vb r19))] (AllP.cons (⟨callsB_borrow (ok_ref35_Same n r9 (r11 ++ r13) _ hr14) (by kernel_rfl) (by kernel_rfl) (by kernel_rfl),by kernel_rfl,by kernel_rfl⟩) (AllP.cons (fun hg=>⟨(ok_host_Host_Now__o0 r8.2 _ (if_t hg hr15)),by kernel_rfl,by kernel_rfl⟩) (AllP.cons (fun hg=>by cases if_f hg hr15; exact keepOb (by kernel_rfl)) (AllP.cons (fun hg=>⟨(ok_host_Host_Now__o0 r12.2 _ (if_t hg hr16)),by kernel_rfl,by kernel_rfl⟩) (AllP.cons (fun hg=>by cases if_f hg hr16; exact keepOb (by kernel_rfl)) (AllP.cons (fun hg=>⟨(ok_host_Host_Boxes__o0 n r15.2 _ (if_t hg hr17)),by kernel_rfl,by kernel_rfl⟩) (AllP.cons (fun hg=>by cases if_f hg hr17; exact keepOb (by kernel_rfl)) (AllP.cons (fun hg=>⟨(ok_host_Host_Boxes__o0 n r16.2 _ (if_t hg hr18)),by kernel_rfl,by kernel_rfl⟩) (AllP.cons (fun hg=>by cases if_f hg hr18; exact keepOb (by kernel_rfl)) (AllP.cons (fun hg=>cx (ok_law33_SameBoxes n r17.1 r18.1 _ (if_t hg hr19))) AllP.nil)))))))))) ?_
   refine To.thenN (cn h (fun h=>?_) (fun h=>?_))
   ·refine Wp.seq (rg [8] [] [(8,vb false)] [] (To.thenN (Wp.ret (To.thenR ?_))))
    cases h
    exact To.done hΓ (by kernel_rfl)
   ·refine Wp.skip (To.thenN (Wp.seq (Wp.seq (rg [12,14] [73] [(12,.row 73),(14,vi 1)] [(73,84,[rc48 r9])] (To.thenN (Wp.block ?_))))))
    obtain ⟨o20,ho20,h⟩:=bind_of h
    refine nw [12,14] [73] [(73,1012)] [12,14] [1012] [(12,.row 1012),(14,vi 1)] [(1012,84,[rc48 r9])] (Wp.loopL (ok_law35_HostParts_l2 n r9 n 1 o20 ho20 ?_))
    rcases o20 with o20 | o20
    ·replace h:=sum_l h
     refine To.blockX (To.thenN (Wp.seq ?_))
     obtain ⟨r21,hr21,h⟩:=bind_of h
     refine rc [] 0 [8] [] [(8,vb r21)] [] (ok_law35_awake n  _ hr21) (To.thenN (Wp.ret ?_))
     cases h
     exact To.done hΓ (by kernel_rfl)
    ·replace h:=sum_r h
     refine To.blockR (To.thenR ?_)
     cases h
     exact To.done hΓ (by kernel_rfl)
  ·replace h:=sum_r h
   refine To.blockR (To.thenR ?_)
   cases h
   exact To.done hΓ (by kernel_rfl)
def ref34_Of_l1 (n:Nat) (v0:List (S_fault_Gap)) (b2:S_ref34_Plan):Nat → Int → S_ref34_Plan → Option (S_ref34_Plan)
 | 0,_,_=>none
 | k + 1,v4,b3=>if (decide (v4 < (List.length v0:Int))) = true then (if (decide (0 ≤ v4 ∧ v4 < (List.length v0:Int))) = true then ((ref34_Add n b3 ((v0)[Int.toNat v4]?.getD (S_fault_Gap.mk 0 0))).bind fun r1 =>
 ref34_Of_l1 n v0 b2 k (IntKind.wrap .i64 (v4 + 1)) r1) else none)
 else some b3
def ref34_Of (n:Nat) (a0:List (S_fault_Gap)):Option (S_ref34_Plan) :=
 (ref34_Of_l1 n a0 (S_ref34_Plan.mk [] 0) n 0 (S_ref34_Plan.mk [] 0)).bind fun o1 =>
 some o1
structure S_api_Var where
 f_Key:List UInt8
 f_Val:List UInt8
structure S_api_Port where
 f_Host:List UInt8
 f_Out:Int
 f_In:Int
 f_Proto:List UInt8
structure S_api_Mount where
 f_Source:List UInt8
 f_Target:List UInt8
 f_ReadOnly:Bool
structure S_api_Dep where
 f_Service:List UInt8
 f_Cond:Int
 f_Restart:Bool
 f_Required:Bool
structure S_api_Service where
 f_Name:List UInt8
 f_Image:List UInt8
 f_Command:List (List UInt8)
 f_Env:List (S_api_Var)
 f_Labels:List (S_api_Var)
 f_Ports:List (S_api_Port)
 f_Mounts:List (S_api_Mount)
 f_Nets:List (List UInt8)
 f_Deps:List (S_api_Dep)
 f_Replicas:Int
 f_Health:S_api_Check
 f_Restart:Int
 f_Tries:Int
 f_Cpus:Int
 f_Mem:Int
structure S_view_Seen where
 f_Boxes:List (S_api_Container)
 f_Nets:List (S_api_Kept)
 f_Vols:List (S_api_Kept)
end Go.Proofs.YtaecmkldkljioaaGreat.M
