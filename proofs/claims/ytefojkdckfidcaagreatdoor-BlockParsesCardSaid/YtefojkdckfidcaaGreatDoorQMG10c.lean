import Derived.Test.YtefojkdckfidcaaGreatDoorQMG10b
set_option linter.all false
namespace Go.Proofs.YtefojkdckfidcaaGreatDoor.M
open Go.RowKit Go.Proofs.YtefojkdckfidcaaGreatDoor.RX
set_option maxRecDepth 100000
abbrev rc19 (l:List (List UInt8)):D:=.rowc false (α:=List UInt8) [] E_string l
abbrev qc20 (k0:Nat) (k1:Nat) (x:S_api_Node):List D:=[vi x.f_Kind,.str x.f_Text,.row k0,.row k1]
theorem ok_flow_reader_pairs__o0_g1 (R_flow_reader_value__o0:S_flow_reader → Option (S_api_Node × Bool × S_flow_reader)) (hR_flow_reader_value__o0:hR18 R_flow_reader_value__o0) (n:Nat) {F0:Fz} {w0:Pt Tryz.prog} {Q:Exit → Act → World → Prop} (k:Nat):(∀ (b2:S_api_Node) (b1000000:S_flow_reader) (o:S_api_Node × S_flow_reader),flow_reader_pairs__o0_g1_e R_flow_reader_value__o0 n k b2 b1000000 = some o → To 71 F0 w0 [(2,.own 2 0)] [(2,26,qc20 4122 4123 o.1),(4122,9,[rc19 o.1.f_Keys]),(4123,26,[rc12 o.1.f_Kids]),(1000000,137,qc17 o.2)] .ret Q → WG Tryz.prog 71 F0 w0 [(0,.own 1000000 0),(2,.own 2 0)] [(2,26,qc9 b2),(1000000,137,qc17 b1000000)] (cI (cB (cF Tryz.f127))) (cI (cB (cF Tryz.f127))) Q) ∧
 (∀ (b2:S_api_Node) (b3:S_api_Node) (b9:List (MK × Int)) (b1000000:S_flow_reader) (o:S_api_Node × S_flow_reader),flow_reader_pairs__o0_g1_0 R_flow_reader_value__o0 n k b2 b3 b9 b1000000 = some o → To 71 F0 w0 [(2,.own 2 0)] [(2,26,qc20 4122 4123 o.1),(4122,9,[rc19 o.1.f_Keys]),(4123,26,[rc12 o.1.f_Kids]),(1000000,137,qc17 o.2)] .ret Q → WG Tryz.prog 71 F0 w0 [(0,.own 1000000 0),(2,.own 2 0),(3,.own 3 0),(4,.mp 9)] [(2,26,qc9 b2),(3,26,qc20 4182 4183 b3),(9,156,[.mapc none false (α:=Int) 0 E_i64 b9]),(4182,9,[rc19 b3.f_Keys]),(4183,26,[rc12 b3.f_Kids]),(1000000,137,qc17 b1000000)] (cI (cB (cF Tryz.f127))) (cG 0 (cB (cF Tryz.f127))) Q):=by
 induction k with
 | zero=>exact ⟨(by intro b2 b1000000 o h; cases h),(by intro b2 b3 b9 b1000000 o h; cases h)⟩
 | succ k ih =>
  refine ⟨?_,?_⟩
  ·intro b2 b1000000 o h hQ
   rw [flow_reader_pairs__o0_g1_e] at h
   refine WG.pass (Wp.seq (rg [0,2,3] [2,3,1000000] [(0,.own 1000000 0),(2,.own 2 0),(3,.own 3 0)] [(2,26,qc9 b2),(3,26,[vi 3,.str [],.val (.slice none 0 0),.val (.slice none 0 0)]),(1000000,137,qc17 b1000000)] (To.thenN (Wp.seq (rr [] [(0,.mapc none false (α:=Int) 0 E_i64 [])] [] [0,2,3,4] [2,3,9,1000000] [(0,.own 1000000 0),(2,.own 2 0),(3,.own 3 0),(4,.mp 9)] [(2,26,qc9 b2),(3,26,[vi 3,.str [],.val (.slice none 0 0),.val (.slice none 0 0)]),(9,156,[.mapc none false (α:=Int) 0 E_i64 []]),(1000000,137,qc17 b1000000)] [(GoodM false E_i64)] (AllP.cons (⟨fun _=>rfl,fun _ _=>rfl⟩) AllP.nil) ?_)))))
   refine To.thenN (Wp.seq (rg [0,2,3,4] [2,3,9,1000000] [(0,.own 1000000 0),(2,.own 2 0),(3,.own 3 0),(4,.mp 9)] [(2,26,qc9 b2),(3,26,[vi 3,.str [],.val (.slice none 0 0),.val (.slice none 0 0)]),(9,156,[.mapc none false (α:=Int) 0 E_i64 []]),(ex46 b1000000)] (To.thenN (Wp.seq (Wp.seq ?_)))))
   obtain ⟨r1,hr1,h⟩:=bind_of h
   refine rb [] 1 ⟨[(1000000,1000000)],[(1000000,1000000)],[.own 1000000 0,.val (.int .u8 125)],[(ex46 b1000000)],vb r1.1,[(1000000,137,qc17 r1.2)]⟩ [0,2,3,4,18] [2,3,9,1000000] [(0,.own 1000000 0),(2,.own 2 0),(3,.own 3 0),(4,.mp 9),(18,vb r1.1)] [(2,26,qc9 b2),(3,26,[vi 3,.str [],.val (.slice none 0 0),.val (.slice none 0 0)]),(9,156,[.mapc none false (α:=Int) 0 E_i64 []]),(1000000,137,qc17 r1.2)] ((ok_flow_reader_take__o0 n 125 (ex48 b1000000) _ hr1)) (To.thenN (cn h (fun h=>?_) (fun h=>?_)))
   ·refine Wp.seq (rg [2] [2,1000000] [(2,.own 2 0)] [(2,26,[vi 3,.str [],.val (.slice none 0 0),.val (.slice none 0 0)]),(1000000,137,qc17 r1.2)] (To.thenN (Wp.ret (To.thenR (To.goesO (.inr (.inl rfl)) (kt [2] [2,1000000] [(2,.own 2 0)] [(2,26,[vi 3,.str [],.val (.slice none 0 0),.val (.slice none 0 0)]),(1000000,137,qc17 r1.2)] (To.pre (St.vacantB 2 2 4122 9 (good_E_string _) (by decide) (by kernel_rfl) (L':=[(2,26,[vi 3,.str [],.row 4122,.val (.slice none 0 0)]),(1000000,137,qc17 r1.2)]) (by kernel_rfl)) (kt [2] [2,4122,1000000] [(2,.own 2 0)] [(2,26,[vi 3,.str [],.row 4122,.val (.slice none 0 0)]),(4122,9,[rc19 []]),(1000000,137,qc17 r1.2)] (To.pre (St.vacantB 2 3 4123 26 (good_E_api_Node _) (by decide) (by kernel_rfl) (L':=[(2,26,[vi 3,.str [],.row 4122,.row 4123]),(4122,9,[rc19 []]),(1000000,137,qc17 r1.2)]) (by kernel_rfl)) (kt [2] [2,4122,4123,1000000] [(2,.own 2 0)] [(2,26,[vi 3,.str [],.row 4122,.row 4123]),(4122,9,[rc19 []]),(4123,26,[rc12 []]),(1000000,137,qc17 r1.2)] ?_))))))))))
    cases h
    exact hQ
   ·refine Wp.skip (To.thenN (Wp.seq (kw [0,2,3,4,18] [2,3,9,1000000] [(0,.own 1000000 0),(2,.own 2 0),(3,.own 3 0),(4,.mp 9),(18,vb r1.1)] [(2,26,qc9 b2),(3,26,[vi 3,.str [],.val (.slice none 0 0),.val (.slice none 0 0)]),(9,156,[.mapc none false (α:=Int) 0 E_i64 []]),(1000000,137,qc17 r1.2)] (Wp.pre (St.vacantB 3 2 4182 9 (good_E_string _) (by decide) (by kernel_rfl) (L':=[(2,26,qc9 b2),(3,26,[vi 3,.str [],.row 4182,.val (.slice none 0 0)]),(9,156,[.mapc none false (α:=Int) 0 E_i64 []]),(1000000,137,qc17 r1.2)]) (by kernel_rfl)) (kw [0,2,3,4,18] [2,3,9,4182,1000000] [(0,.own 1000000 0),(2,.own 2 0),(3,.own 3 0),(4,.mp 9),(18,vb r1.1)] [(2,26,qc9 b2),(3,26,[vi 3,.str [],.row 4182,.val (.slice none 0 0)]),(9,156,[.mapc none false (α:=Int) 0 E_i64 []]),(4182,9,[rc19 []]),(1000000,137,qc17 r1.2)] (Wp.pre (St.vacantB 3 3 4183 26 (good_E_api_Node _) (by decide) (by kernel_rfl) (L':=[(2,26,qc9 b2),(3,26,[vi 3,.str [],.row 4182,.row 4183]),(9,156,[.mapc none false (α:=Int) 0 E_i64 []]),(4182,9,[rc19 []]),(1000000,137,qc17 r1.2)]) (by kernel_rfl)) (kw [0,2,3,4,18] [2,3,9,4182,4183,1000000] [(0,.own 1000000 0),(2,.own 2 0),(3,.own 3 0),(4,.mp 9),(18,vb r1.1)] [(2,26,qc9 b2),(3,26,[vi 3,.str [],.row 4182,.row 4183]),(9,156,[.mapc none false (α:=Int) 0 E_i64 []]),(4182,9,[rc19 []]),(4183,26,[rc12 []]),(1000000,137,qc17 r1.2)] (Wp.label (To.thenN (Wp.seq ?_))))))))))
    obtain ⟨r2,hr2,h⟩:=bind_of h
    refine rb [] 1 ⟨[(1000000,1000000)],[(1000000,1000000)],[.own 1000000 0],[(1000000,137,qc17 r1.2)],.str r2.1,[(1000000,137,qc17 r2.2)]⟩ [0,2,3,4,5] [2,3,9,4182,4183,1000000] [(0,.own 1000000 0),(2,.own 2 0),(3,.own 3 0),(4,.mp 9),(5,.str r2.1)] [(2,26,qc9 b2),(3,26,[vi 3,.str [],.row 4182,.row 4183]),(9,156,[.mapc none false (α:=Int) 0 E_i64 []]),(4182,9,[rc19 []]),(4183,26,[rc12 []]),(1000000,137,qc17 r2.2)] ((ok_flow_reader_key__o0 n r1.2 _ hr2)) (To.thenN (Wp.seq (Wp.seq (rr [] [(2,vi ((mlook ([]:List (MK × Int)) (.inl r2.1)).getD 0)),(4,.mapc none false (α:=Int) 0 E_i64 (mput ([]:List (MK × Int)) (.inl r2.1) (IntKind.wrap .i64 (((mlook ([]:List (MK × Int)) (.inl r2.1)).getD 0) + 1))))] [] [0,2,3,4,5] [2,3,9,4182,4183,1000000] [(0,.own 1000000 0),(2,.own 2 0),(3,.own 3 0),(4,.mp 9),(5,.str r2.1)] [(2,26,qc9 b2),(3,26,[vi 3,.str [],.row 4182,.row 4183]),(9,156,[.mapc none false (α:=Int) 0 E_i64 (mput ([]:List (MK × Int)) (.inl r2.1) (IntKind.wrap .i64 (((mlook ([]:List (MK × Int)) (.inl r2.1)).getD 0) + 1)))]),(4182,9,[rc19 []]),(4183,26,[rc12 []]),(1000000,137,qc17 r2.2)] [(true = true → LookOb false E_i64 ([]:List (MK × Int)) (.inl r2.1) [vi 0] (vi ((mlook ([]:List (MK × Int)) (.inl r2.1)).getD 0))),(∃ l':List (MK × Int),(.mapc none false (α:=Int) 0 E_i64 (mput ([]:List (MK × Int)) (.inl r2.1) (IntKind.wrap .i64 (((mlook ([]:List (MK × Int)) (.inl r2.1)).getD 0) + 1))):D) = .mapc none false (α:=Int) 0 E_i64 l' ∧ MsetOb E_i64 ([]:List (MK × Int)) (.inl r2.1) [vi (IntKind.wrap .i64 (((mlook ([]:List (MK × Int)) (.inl r2.1)).getD 0) + 1))] l')] (AllP.cons (fun _=>⟨0,Weaks.of_eq (by kernel_rfl),by kernel_rfl⟩) (AllP.cons (⟨_,rfl,(IntKind.wrap .i64 (((mlook ([]:List (MK × Int)) (.inl r2.1)).getD 0) + 1)),Weaks.of_eq (by kernel_rfl),rfl⟩) AllP.nil)) ?_))))
    refine To.thenN (Wp.seq ?_)
    obtain ⟨x3,hx3,h⟩:=lett_of h
    refine rr [] [(7,vi ((mlook (mput ([]:List (MK × Int)) (.inl r2.1) (IntKind.wrap .i64 (((mlook ([]:List (MK × Int)) (.inl r2.1)).getD 0) + 1))) (.inl r2.1)).getD 0))] [] [0,2,3,4,5,35] [2,3,9,4182,4183,1000000] [(0,.own 1000000 0),(2,.own 2 0),(3,.own 3 0),(4,.mp 9),(5,.str r2.1),(35,vb (bif r2.2.f_bad then true else (decide (((mlook (mput ([]:List (MK × Int)) (.inl r2.1) (IntKind.wrap .i64 (((mlook ([]:List (MK × Int)) (.inl r2.1)).getD 0) + 1))) (.inl r2.1)).getD 0) > 1))))] [(2,26,qc9 b2),(3,26,[vi 3,.str [],.row 4182,.row 4183]),(9,156,[.mapc none false (α:=Int) 0 E_i64 (mput ([]:List (MK × Int)) (.inl r2.1) (IntKind.wrap .i64 (((mlook ([]:List (MK × Int)) (.inl r2.1)).getD 0) + 1)))]),(4182,9,[rc19 []]),(4183,26,[rc12 []]),(1000000,137,qc17 r2.2)] [((r2.2.f_bad == false) = true → LookOb false E_i64 (mput ([]:List (MK × Int)) (.inl r2.1) (IntKind.wrap .i64 (((mlook ([]:List (MK × Int)) (.inl r2.1)).getD 0) + 1))) (.inl r2.1) [vi 0] (vi ((mlook (mput ([]:List (MK × Int)) (.inl r2.1) (IntKind.wrap .i64 (((mlook ([]:List (MK × Int)) (.inl r2.1)).getD 0) + 1))) (.inl r2.1)).getD 0)))] (AllP.cons (fun _=>⟨0,Weaks.of_eq (by kernel_rfl),by kernel_rfl⟩) AllP.nil) ?_
    refine To.eq (K':=[(0,.own 1000000 0),(2,.own 2 0),(3,.own 3 0),(4,.mp 9),(5,.str r2.1),(35,vb x3)]) (L':=[(2,26,qc9 b2),(3,26,[vi 3,.str [],.row 4182,.row 4183]),(9,156,[.mapc none false (α:=Int) 0 E_i64 (mput ([]:List (MK × Int)) (.inl r2.1) (IntKind.wrap .i64 (((mlook ([]:List (MK × Int)) (.inl r2.1)).getD 0) + 1)))]),(4182,9,[rc19 []]),(4183,26,[rc12 []]),(1000000,137,qc17 r2.2)]) (by cases hx3; rfl) (by cases hx3; rfl) (To.thenN (cn h (fun h=>?_) (fun h=>?_)))
    ·refine Wp.seq (rg [2,3] [2,3,4182,4183,1000000] [(2,.own 2 0),(3,.own 3 0)] [(2,26,qc9 b2),(3,26,[vi 3,.str [],.row 4182,.row 4183]),(4182,9,[rc19 []]),(4183,26,[rc12 []]),(1000000,137,[.str r2.2.f_s,vi r2.2.f_at,vb true])] (To.thenN (Wp.seq (rg [2] [2,4182,4183,1000000] [(2,.own 2 0)] [(2,26,[vi 3,.str [],.row 4182,.row 4183]),(4182,9,[rc19 []]),(4183,26,[rc12 []]),(1000000,137,[.str r2.2.f_s,vi r2.2.f_at,vb true])] (To.thenN (Wp.ret (To.thenR (To.goesO (.inr (.inl rfl)) (nt [2] [2,4182,4183,1000000] [(4182,4122),(4183,4123)] [2] [2,4122,4123,1000000] [(2,.own 2 0)] [(2,26,[vi 3,.str [],.row 4122,.row 4123]),(4122,9,[rc19 []]),(4123,26,[rc12 []]),(1000000,137,[.str r2.2.f_s,vi r2.2.f_at,vb true])] ?_)))))))))
     cases h
     exact hQ
    ·refine Wp.skip (To.thenN (Wp.seq ?_))
     obtain ⟨r4,hr4,h⟩:=bind_of h
     refine rb [] 1 ⟨[(1000000,1000000)],[(1000000,1000000)],[.own 1000000 0],[(1000000,137,qc17 r2.2)],.tup [.agg (qc9 r4.1),vb r4.2.1],[(1000000,137,qc17 r4.2.2)]⟩ [0,2,3,4,5,6] [2,3,6,9,4182,4183,1000000] [(0,.own 1000000 0),(2,.own 2 0),(3,.own 3 0),(4,.mp 9),(5,.str r2.1),(6,.own 6 0)] [(2,26,qc9 b2),(3,26,[vi 3,.str [],.row 4182,.row 4183]),(6,26,qc9 r4.1),(9,156,[.mapc none false (α:=Int) 0 E_i64 (mput ([]:List (MK × Int)) (.inl r2.1) (IntKind.wrap .i64 (((mlook ([]:List (MK × Int)) (.inl r2.1)).getD 0) + 1)))]),(4182,9,[rc19 []]),(4183,26,[rc12 []]),(1000000,137,qc17 r4.2.2)] ((hR_flow_reader_value__o0 r2.2 _ hr4)) (To.thenN (Wp.seq ?_))
     obtain ⟨hc7,h⟩:=chk_of h
     obtain ⟨hc8,h⟩:=chk_of h
     refine Wp.regionO hm hΓ [] [(3,ls [r2.1]),(4,ls (([]:List (List UInt8)) ++ ([r2.1]:List (List UInt8)))),(8,rs13 [r4.1]),(9,rs13 (([]:List (S_api_Node)) ++ ([r4.1]:List (S_api_Node))))] [] [0,2,3,4,5,6,45,46,47,48,49,50,51,52,53,54,55,56] [2,3,6,9,48,49,53,54,4182,4183,1000000] [0,2,3,4] [2,3,9,49,54,1000000] (K':=[(0,.own 1000000 0),(2,.own 2 0),(3,.own 3 0),(4,.mp 9)]) (L':=[(2,26,qc9 b2),(3,26,[vi 3,.str [],.row 49,.row 54]),(9,156,[.mapc none false (α:=Int) 0 E_i64 (mput ([]:List (MK × Int)) (.inl r2.1) (IntKind.wrap .i64 (((mlook ([]:List (MK × Int)) (.inl r2.1)).getD 0) + 1)))]),(49,9,[rc19 (([]:List (List UInt8)) ++ ([r2.1]:List (List UInt8)))]),(54,26,[rc12 (([]:List (S_api_Node)) ++ ([r4.1]:List (S_api_Node)))]),(1000000,137,qc17 r4.2.2)]) (ob:=[(MkOb 1 [.str r2.1] 1 (ls [r2.1]) ∧ GoodR (ls [r2.1])),(decide ((List.length ([]:List (List UInt8)) + List.length ([r2.1]:List (List UInt8))) * (16 + 1) ≤ limit)) = true,(AppOb [] E_string ([]:List (List UInt8)) (List.flatMap E_string ([r2.1]:List (List UInt8))) (List.length ([r2.1]:List (List UInt8))) (ls (([]:List (List UInt8)) ++ ([r2.1]:List (List UInt8)))) ∧ GoodR (ls (([]:List (List UInt8)) ++ ([r2.1]:List (List UInt8))))),(MkOb 4 (qc9 r4.1) 1 (rs13 [r4.1]) ∧ GoodR (rs13 [r4.1])),(decide ((List.length ([]:List (S_api_Node)) + List.length ([r4.1]:List (S_api_Node))) * (72 + 1) ≤ limit)) = true,(AppOb zx7 E_api_Node ([]:List (S_api_Node)) (List.flatMap E_api_Node ([r4.1]:List (S_api_Node))) (List.length ([r4.1]:List (S_api_Node))) (rs13 (([]:List (S_api_Node)) ++ ([r4.1]:List (S_api_Node)))) ∧ GoodR (rs13 (([]:List (S_api_Node)) ++ ([r4.1]:List (S_api_Node)))))]) (by kernel_rfl) (by kernel_rfl) (AllP.cons (mkOb (by kernel_rfl) rfl (by kernel_rfl) (good_E_string _)) (AllP.cons hc7 (AllP.cons (appOb rfl rfl (good_E_string _)) (AllP.cons (mkOb (by kernel_rfl) rfl (by kernel_rfl) (good_E_api_Node _)) (AllP.cons hc8 (AllP.cons (appOb rfl rfl (good_E_api_Node _)) AllP.nil)))))) (To.thenN (Wp.seq (Wp.seq (rg [0,2,3,4,60] [2,3,9,49,54,1000000] [(0,.own 1000000 0),(2,.own 2 0),(3,.own 3 0),(4,.mp 9),(60,vb r4.2.2.f_bad)] [(2,26,qc9 b2),(3,26,[vi 3,.str [],.row 49,.row 54]),(9,156,[.mapc none false (α:=Int) 0 E_i64 (mput ([]:List (MK × Int)) (.inl r2.1) (IntKind.wrap .i64 (((mlook ([]:List (MK × Int)) (.inl r2.1)).getD 0) + 1)))]),(49,9,[rc19 (([]:List (List UInt8)) ++ ([r2.1]:List (List UInt8)))]),(54,26,[rc12 (([]:List (S_api_Node)) ++ ([r4.1]:List (S_api_Node)))]),(1000000,137,qc17 r4.2.2)] (To.thenN (cn h (fun h=>?_) (fun h=>?_)))))))
     ·refine Wp.seq (rg [2] [2,49,54,1000000] [(2,.own 2 0)] [(2,26,[vi 3,.str [],.row 49,.row 54]),(49,9,[rc19 (([]:List (List UInt8)) ++ ([r2.1]:List (List UInt8)))]),(54,26,[rc12 (([]:List (S_api_Node)) ++ ([r4.1]:List (S_api_Node)))]),(1000000,137,qc17 r4.2.2)] (To.thenN (Wp.ret (To.thenR (To.goesO (.inr (.inl rfl)) (nt [2] [2,49,54,1000000] [(49,4122),(54,4123)] [2] [2,4122,4123,1000000] [(2,.own 2 0)] [(2,26,[vi 3,.str [],.row 4122,.row 4123]),(4122,9,[rc19 (([]:List (List UInt8)) ++ ([r2.1]:List (List UInt8)))]),(4123,26,[rc12 (([]:List (S_api_Node)) ++ ([r4.1]:List (S_api_Node)))]),(1000000,137,qc17 r4.2.2)] ?_))))))
      cases h
      exact hQ
     ·refine Wp.skip (To.thenN (Wp.seq (Wp.seq ?_)))
      obtain ⟨r5,hr5,h⟩:=bind_of h
      refine rb [] 1 ⟨[(1000000,1000000)],[(1000000,1000000)],[.own 1000000 0,.val (.int .u8 44)],[(1000000,137,qc17 r4.2.2)],vb r5.1,[(1000000,137,qc17 r5.2)]⟩ [0,2,3,4,63] [2,3,9,49,54,1000000] [(0,.own 1000000 0),(2,.own 2 0),(3,.own 3 0),(4,.mp 9),(63,vb r5.1)] [(2,26,qc9 b2),(3,26,[vi 3,.str [],.row 49,.row 54]),(9,156,[.mapc none false (α:=Int) 0 E_i64 (mput ([]:List (MK × Int)) (.inl r2.1) (IntKind.wrap .i64 (((mlook ([]:List (MK × Int)) (.inl r2.1)).getD 0) + 1)))]),(49,9,[rc19 (([]:List (List UInt8)) ++ ([r2.1]:List (List UInt8)))]),(54,26,[rc12 (([]:List (S_api_Node)) ++ ([r4.1]:List (S_api_Node)))]),(1000000,137,qc17 r5.2)] ((ok_flow_reader_take__o0 n 44 r4.2.2 _ hr5)) (To.thenN (cn h (fun h=>?_) (fun h=>?_)))
      ·refine Wp.goto (To.thenG (nt [0,2,3,4] [2,3,9,49,54,1000000] [(49,4182),(54,4183)] [0,2,3,4] [2,3,9,4182,4183,1000000] [(0,.own 1000000 0),(2,.own 2 0),(3,.own 3 0),(4,.mp 9)] [(2,26,qc9 b2),(3,26,[vi 3,.str [],.row 4182,.row 4183]),(9,156,[.mapc none false (α:=Int) 0 E_i64 (mput ([]:List (MK × Int)) (.inl r2.1) (IntKind.wrap .i64 (((mlook ([]:List (MK × Int)) (.inl r2.1)).getD 0) + 1)))]),(4182,9,[rc19 (([]:List (List UInt8)) ++ ([r2.1]:List (List UInt8)))]),(4183,26,[rc12 (([]:List (S_api_Node)) ++ ([r4.1]:List (S_api_Node)))]),(1000000,137,qc17 r5.2)] (To.goto (rest:=cG 0 (cB (cF Tryz.f127))) (by kernel_rfl) ?_)))
       exact ih.2 b2 (S_api_Node.mk 3 [] (([]:List (List UInt8)) ++ ([r2.1]:List (List UInt8))) (([]:List (S_api_Node)) ++ ([r4.1]:List (S_api_Node)))) (mput ([]:List (MK × Int)) (.inl r2.1) (IntKind.wrap .i64 (((mlook ([]:List (MK × Int)) (.inl r2.1)).getD 0) + 1))) r5.2 _ h hQ
      ·refine Wp.skip (To.thenN (Wp.seq ?_))
       obtain ⟨r6,hr6,h⟩:=bind_of h
       refine rb [] 2 ⟨[(1000000,1000000)],[(1000000,1000000)],[.own 1000000 0,.val (.int .u8 125)],[(1000000,137,qc17 r5.2)],vb r6.1,[(1000000,137,qc17 r6.2)]⟩ [2,3] [2,3,49,54,1000000] [(2,.own 2 0),(3,.own 3 0)] [(2,26,qc9 b2),(3,26,[vi 3,.str [],.row 49,.row 54]),(49,9,[rc19 (([]:List (List UInt8)) ++ ([r2.1]:List (List UInt8)))]),(54,26,[rc12 (([]:List (S_api_Node)) ++ ([r4.1]:List (S_api_Node)))]),(1000000,137,[.str r6.2.f_s,vi r6.2.f_at,vb (!r6.1)])] ((ok_flow_reader_take__o0 n 125 r5.2 _ hr6)) (To.thenN (Wp.seq (rg [2] [2,49,54,1000000] [(2,.own 2 0)] [(2,26,[vi 3,.str [],.row 49,.row 54]),(49,9,[rc19 (([]:List (List UInt8)) ++ ([r2.1]:List (List UInt8)))]),(54,26,[rc12 (([]:List (S_api_Node)) ++ ([r4.1]:List (S_api_Node)))]),(1000000,137,[.str r6.2.f_s,vi r6.2.f_at,vb (!r6.1)])] (To.thenN (Wp.ret (To.goesO (.inr (.inl rfl)) (nt [2] [2,49,54,1000000] [(49,4122),(54,4123)] [2] [2,4122,4123,1000000] [(2,.own 2 0)] [(2,26,[vi 3,.str [],.row 4122,.row 4123]),(4122,9,[rc19 (([]:List (List UInt8)) ++ ([r2.1]:List (List UInt8)))]),(4123,26,[rc12 (([]:List (S_api_Node)) ++ ([r4.1]:List (S_api_Node)))]),(1000000,137,[.str r6.2.f_s,vi r6.2.f_at,vb (!r6.1)])] ?_)))))))
       cases h
       exact hQ
  ·intro b2 b3 b9 b1000000 o h hQ
   rw [flow_reader_pairs__o0_g1_0] at h
   refine WG.pass (Wp.seq (Wp.skip (To.thenN (Wp.seq ?_))))
   obtain ⟨r1,hr1,h⟩:=bind_of h
   refine rb [] 1 ⟨[(1000000,1000000)],[(1000000,1000000)],[.own 1000000 0],[(1000000,137,qc17 b1000000)],.str r1.1,[(1000000,137,qc17 r1.2)]⟩ [0,2,3,4,5] [2,3,9,4182,4183,1000000] [(0,.own 1000000 0),(2,.own 2 0),(3,.own 3 0),(4,.mp 9),(5,.str r1.1)] [(2,26,qc9 b2),(3,26,qc20 4182 4183 b3),(9,156,[.mapc none false (α:=Int) 0 E_i64 b9]),(4182,9,[rc19 b3.f_Keys]),(4183,26,[rc12 b3.f_Kids]),(1000000,137,qc17 r1.2)] ((ok_flow_reader_key__o0 n b1000000 _ hr1)) (To.thenN (Wp.seq (Wp.seq (rr [] [(2,vi ((mlook b9 (.inl r1.1)).getD 0)),(4,.mapc none false (α:=Int) 0 E_i64 (mput b9 (.inl r1.1) (IntKind.wrap .i64 (((mlook b9 (.inl r1.1)).getD 0) + 1))))] [] [0,2,3,4,5] [2,3,9,4182,4183,1000000] [(0,.own 1000000 0),(2,.own 2 0),(3,.own 3 0),(4,.mp 9),(5,.str r1.1)] [(2,26,qc9 b2),(3,26,qc20 4182 4183 b3),(9,156,[.mapc none false (α:=Int) 0 E_i64 (mput b9 (.inl r1.1) (IntKind.wrap .i64 (((mlook b9 (.inl r1.1)).getD 0) + 1)))]),(4182,9,[rc19 b3.f_Keys]),(4183,26,[rc12 b3.f_Kids]),(1000000,137,qc17 r1.2)] [(true = true → LookOb false E_i64 b9 (.inl r1.1) [vi 0] (vi ((mlook b9 (.inl r1.1)).getD 0))),(∃ l':List (MK × Int),(.mapc none false (α:=Int) 0 E_i64 (mput b9 (.inl r1.1) (IntKind.wrap .i64 (((mlook b9 (.inl r1.1)).getD 0) + 1))):D) = .mapc none false (α:=Int) 0 E_i64 l' ∧ MsetOb E_i64 b9 (.inl r1.1) [vi (IntKind.wrap .i64 (((mlook b9 (.inl r1.1)).getD 0) + 1))] l')] (AllP.cons (fun _=>⟨0,Weaks.of_eq (by kernel_rfl),by kernel_rfl⟩) (AllP.cons (⟨_,rfl,(IntKind.wrap .i64 (((mlook b9 (.inl r1.1)).getD 0) + 1)),Weaks.of_eq (by kernel_rfl),rfl⟩) AllP.nil)) ?_))))
   refine To.thenN (Wp.seq ?_)
   obtain ⟨x2,hx2,h⟩:=lett_of h
   refine rr [] [(7,vi ((mlook (mput b9 (.inl r1.1) (IntKind.wrap .i64 (((mlook b9 (.inl r1.1)).getD 0) + 1))) (.inl r1.1)).getD 0))] [] [0,2,3,4,5,35] [2,3,9,4182,4183,1000000] [(0,.own 1000000 0),(2,.own 2 0),(3,.own 3 0),(4,.mp 9),(5,.str r1.1),(35,vb (bif r1.2.f_bad then true else (decide (((mlook (mput b9 (.inl r1.1) (IntKind.wrap .i64 (((mlook b9 (.inl r1.1)).getD 0) + 1))) (.inl r1.1)).getD 0) > 1))))] [(2,26,qc9 b2),(3,26,qc20 4182 4183 b3),(9,156,[.mapc none false (α:=Int) 0 E_i64 (mput b9 (.inl r1.1) (IntKind.wrap .i64 (((mlook b9 (.inl r1.1)).getD 0) + 1)))]),(4182,9,[rc19 b3.f_Keys]),(4183,26,[rc12 b3.f_Kids]),(1000000,137,qc17 r1.2)] [((r1.2.f_bad == false) = true → LookOb false E_i64 (mput b9 (.inl r1.1) (IntKind.wrap .i64 (((mlook b9 (.inl r1.1)).getD 0) + 1))) (.inl r1.1) [vi 0] (vi ((mlook (mput b9 (.inl r1.1) (IntKind.wrap .i64 (((mlook b9 (.inl r1.1)).getD 0) + 1))) (.inl r1.1)).getD 0)))] (AllP.cons (fun _=>⟨0,Weaks.of_eq (by kernel_rfl),by kernel_rfl⟩) AllP.nil) ?_
   refine To.eq (K':=[(0,.own 1000000 0),(2,.own 2 0),(3,.own 3 0),(4,.mp 9),(5,.str r1.1),(35,vb x2)]) (L':=[(2,26,qc9 b2),(3,26,qc20 4182 4183 b3),(9,156,[.mapc none false (α:=Int) 0 E_i64 (mput b9 (.inl r1.1) (IntKind.wrap .i64 (((mlook b9 (.inl r1.1)).getD 0) + 1)))]),(4182,9,[rc19 b3.f_Keys]),(4183,26,[rc12 b3.f_Kids]),(1000000,137,qc17 r1.2)]) (by cases hx2; rfl) (by cases hx2; rfl) (To.thenN (cn h (fun h=>?_) (fun h=>?_)))
   ·refine Wp.seq (rg [2,3] [2,3,4182,4183,1000000] [(2,.own 2 0),(3,.own 3 0)] [(2,26,qc9 b2),(3,26,qc20 4182 4183 b3),(4182,9,[rc19 b3.f_Keys]),(4183,26,[rc12 b3.f_Kids]),(1000000,137,[.str r1.2.f_s,vi r1.2.f_at,vb true])] (To.thenN (Wp.seq (rg [2] [2,4182,4183,1000000] [(2,.own 2 0)] [(2,26,qc20 4182 4183 b3),(4182,9,[rc19 b3.f_Keys]),(4183,26,[rc12 b3.f_Kids]),(1000000,137,[.str r1.2.f_s,vi r1.2.f_at,vb true])] (To.thenN (Wp.ret (To.thenR (To.goesO (.inr (.inl rfl)) (nt [2] [2,4182,4183,1000000] [(4182,4122),(4183,4123)] [2] [2,4122,4123,1000000] [(2,.own 2 0)] [(2,26,qc20 4122 4123 b3),(4122,9,[rc19 b3.f_Keys]),(4123,26,[rc12 b3.f_Kids]),(1000000,137,[.str r1.2.f_s,vi r1.2.f_at,vb true])] ?_)))))))))
    cases h
    exact hQ
   ·refine Wp.skip (To.thenN (Wp.seq ?_))
    obtain ⟨r3,hr3,h⟩:=bind_of h
    refine rb [] 1 ⟨[(1000000,1000000)],[(1000000,1000000)],[.own 1000000 0],[(1000000,137,qc17 r1.2)],.tup [.agg (qc9 r3.1),vb r3.2.1],[(1000000,137,qc17 r3.2.2)]⟩ [0,2,3,4,5,6] [2,3,6,9,4182,4183,1000000] [(0,.own 1000000 0),(2,.own 2 0),(3,.own 3 0),(4,.mp 9),(5,.str r1.1),(6,.own 6 0)] [(2,26,qc9 b2),(3,26,qc20 4182 4183 b3),(6,26,qc9 r3.1),(9,156,[.mapc none false (α:=Int) 0 E_i64 (mput b9 (.inl r1.1) (IntKind.wrap .i64 (((mlook b9 (.inl r1.1)).getD 0) + 1)))]),(4182,9,[rc19 b3.f_Keys]),(4183,26,[rc12 b3.f_Kids]),(1000000,137,qc17 r3.2.2)] ((hR_flow_reader_value__o0 r1.2 _ hr3)) (To.thenN (Wp.seq ?_))
    obtain ⟨hc6,h⟩:=chk_of h
    obtain ⟨hc7,h⟩:=chk_of h
    refine Wp.regionO hm hΓ [] [(3,ls [r1.1]),(4,ls (b3.f_Keys ++ ([r1.1]:List (List UInt8)))),(8,rs13 [r3.1]),(9,rs13 (b3.f_Kids ++ ([r3.1]:List (S_api_Node))))] [] [0,2,3,4,5,6,45,46,47,48,49,50,51,52,53,54,55,56] [2,3,6,9,48,49,53,54,4182,4183,1000000] [0,2,3,4] [2,3,9,49,54,1000000] (K':=[(0,.own 1000000 0),(2,.own 2 0),(3,.own 3 0),(4,.mp 9)]) (L':=[(2,26,qc9 b2),(3,26,qc20 49 54 b3),(9,156,[.mapc none false (α:=Int) 0 E_i64 (mput b9 (.inl r1.1) (IntKind.wrap .i64 (((mlook b9 (.inl r1.1)).getD 0) + 1)))]),(49,9,[rc19 (b3.f_Keys ++ ([r1.1]:List (List UInt8)))]),(54,26,[rc12 (b3.f_Kids ++ ([r3.1]:List (S_api_Node)))]),(1000000,137,qc17 r3.2.2)]) (ob:=[(MkOb 1 [.str r1.1] 1 (ls [r1.1]) ∧ GoodR (ls [r1.1])),(decide ((List.length b3.f_Keys + List.length ([r1.1]:List (List UInt8))) * (16 + 1) ≤ limit)) = true,(AppOb [] E_string b3.f_Keys (List.flatMap E_string ([r1.1]:List (List UInt8))) (List.length ([r1.1]:List (List UInt8))) (ls (b3.f_Keys ++ ([r1.1]:List (List UInt8)))) ∧ GoodR (ls (b3.f_Keys ++ ([r1.1]:List (List UInt8))))),(MkOb 4 (qc9 r3.1) 1 (rs13 [r3.1]) ∧ GoodR (rs13 [r3.1])),(decide ((List.length b3.f_Kids + List.length ([r3.1]:List (S_api_Node))) * (72 + 1) ≤ limit)) = true,(AppOb zx7 E_api_Node b3.f_Kids (List.flatMap E_api_Node ([r3.1]:List (S_api_Node))) (List.length ([r3.1]:List (S_api_Node))) (rs13 (b3.f_Kids ++ ([r3.1]:List (S_api_Node)))) ∧ GoodR (rs13 (b3.f_Kids ++ ([r3.1]:List (S_api_Node)))))]) (by kernel_rfl) (by kernel_rfl) (AllP.cons (mkOb (by kernel_rfl) rfl (by kernel_rfl) (good_E_string _)) (AllP.cons hc6 (AllP.cons (appOb rfl rfl (good_E_string _)) (AllP.cons (mkOb (by kernel_rfl) rfl (by kernel_rfl) (good_E_api_Node _)) (AllP.cons hc7 (AllP.cons (appOb rfl rfl (good_E_api_Node _)) AllP.nil)))))) (To.thenN (Wp.seq (Wp.seq (rg [0,2,3,4,60] [2,3,9,49,54,1000000] [(0,.own 1000000 0),(2,.own 2 0),(3,.own 3 0),(4,.mp 9),(60,vb r3.2.2.f_bad)] [(2,26,qc9 b2),(3,26,qc20 49 54 b3),(9,156,[.mapc none false (α:=Int) 0 E_i64 (mput b9 (.inl r1.1) (IntKind.wrap .i64 (((mlook b9 (.inl r1.1)).getD 0) + 1)))]),(49,9,[rc19 (b3.f_Keys ++ ([r1.1]:List (List UInt8)))]),(54,26,[rc12 (b3.f_Kids ++ ([r3.1]:List (S_api_Node)))]),(1000000,137,qc17 r3.2.2)] (To.thenN (cn h (fun h=>?_) (fun h=>?_)))))))
    ·refine Wp.seq (rg [2] [2,49,54,1000000] [(2,.own 2 0)] [(2,26,qc20 49 54 b3),(49,9,[rc19 (b3.f_Keys ++ ([r1.1]:List (List UInt8)))]),(54,26,[rc12 (b3.f_Kids ++ ([r3.1]:List (S_api_Node)))]),(1000000,137,qc17 r3.2.2)] (To.thenN (Wp.ret (To.thenR (To.goesO (.inr (.inl rfl)) (nt [2] [2,49,54,1000000] [(49,4122),(54,4123)] [2] [2,4122,4123,1000000] [(2,.own 2 0)] [(2,26,qc20 4122 4123 b3),(4122,9,[rc19 (b3.f_Keys ++ ([r1.1]:List (List UInt8)))]),(4123,26,[rc12 (b3.f_Kids ++ ([r3.1]:List (S_api_Node)))]),(1000000,137,qc17 r3.2.2)] ?_))))))
     cases h
     exact hQ
    ·refine Wp.skip (To.thenN (Wp.seq (Wp.seq ?_)))
     obtain ⟨r4,hr4,h⟩:=bind_of h
     refine rb [] 1 ⟨[(1000000,1000000)],[(1000000,1000000)],[.own 1000000 0,.val (.int .u8 44)],[(1000000,137,qc17 r3.2.2)],vb r4.1,[(1000000,137,qc17 r4.2)]⟩ [0,2,3,4,63] [2,3,9,49,54,1000000] [(0,.own 1000000 0),(2,.own 2 0),(3,.own 3 0),(4,.mp 9),(63,vb r4.1)] [(2,26,qc9 b2),(3,26,qc20 49 54 b3),(9,156,[.mapc none false (α:=Int) 0 E_i64 (mput b9 (.inl r1.1) (IntKind.wrap .i64 (((mlook b9 (.inl r1.1)).getD 0) + 1)))]),(49,9,[rc19 (b3.f_Keys ++ ([r1.1]:List (List UInt8)))]),(54,26,[rc12 (b3.f_Kids ++ ([r3.1]:List (S_api_Node)))]),(1000000,137,qc17 r4.2)] ((ok_flow_reader_take__o0 n 44 r3.2.2 _ hr4)) (To.thenN (cn h (fun h=>?_) (fun h=>?_)))
     ·refine Wp.goto (To.thenG (nt [0,2,3,4] [2,3,9,49,54,1000000] [(49,4182),(54,4183)] [0,2,3,4] [2,3,9,4182,4183,1000000] [(0,.own 1000000 0),(2,.own 2 0),(3,.own 3 0),(4,.mp 9)] [(2,26,qc9 b2),(3,26,qc20 4182 4183 b3),(9,156,[.mapc none false (α:=Int) 0 E_i64 (mput b9 (.inl r1.1) (IntKind.wrap .i64 (((mlook b9 (.inl r1.1)).getD 0) + 1)))]),(4182,9,[rc19 (b3.f_Keys ++ ([r1.1]:List (List UInt8)))]),(4183,26,[rc12 (b3.f_Kids ++ ([r3.1]:List (S_api_Node)))]),(1000000,137,qc17 r4.2)] (To.goto (rest:=cG 0 (cB (cF Tryz.f127))) (by kernel_rfl) ?_)))
      exact ih.2 b2 (S_api_Node.mk b3.f_Kind b3.f_Text (b3.f_Keys ++ ([r1.1]:List (List UInt8))) (b3.f_Kids ++ ([r3.1]:List (S_api_Node)))) (mput b9 (.inl r1.1) (IntKind.wrap .i64 (((mlook b9 (.inl r1.1)).getD 0) + 1))) r4.2 _ h hQ
     ·refine Wp.skip (To.thenN (Wp.seq ?_))
      obtain ⟨r5,hr5,h⟩:=bind_of h
      refine rb [] 2 ⟨[(1000000,1000000)],[(1000000,1000000)],[.own 1000000 0,.val (.int .u8 125)],[(1000000,137,qc17 r4.2)],vb r5.1,[(1000000,137,qc17 r5.2)]⟩ [2,3] [2,3,49,54,1000000] [(2,.own 2 0),(3,.own 3 0)] [(2,26,qc9 b2),(3,26,qc20 49 54 b3),(49,9,[rc19 (b3.f_Keys ++ ([r1.1]:List (List UInt8)))]),(54,26,[rc12 (b3.f_Kids ++ ([r3.1]:List (S_api_Node)))]),(1000000,137,[.str r5.2.f_s,vi r5.2.f_at,vb (!r5.1)])] ((ok_flow_reader_take__o0 n 125 r4.2 _ hr5)) (To.thenN (Wp.seq (rg [2] [2,49,54,1000000] [(2,.own 2 0)] [(2,26,qc20 49 54 b3),(49,9,[rc19 (b3.f_Keys ++ ([r1.1]:List (List UInt8)))]),(54,26,[rc12 (b3.f_Kids ++ ([r3.1]:List (S_api_Node)))]),(1000000,137,[.str r5.2.f_s,vi r5.2.f_at,vb (!r5.1)])] (To.thenN (Wp.ret (To.goesO (.inr (.inl rfl)) (nt [2] [2,49,54,1000000] [(49,4122),(54,4123)] [2] [2,4122,4123,1000000] [(2,.own 2 0)] [(2,26,qc20 4122 4123 b3),(4122,9,[rc19 (b3.f_Keys ++ ([r1.1]:List (List UInt8)))]),(4123,26,[rc12 (b3.f_Kids ++ ([r3.1]:List (S_api_Node)))]),(1000000,137,[.str r5.2.f_s,vi r5.2.f_at,vb (!r5.1)])] ?_)))))))
      cases h
      exact hQ
def flow_reader_pairs__o0 (R_flow_reader_value__o0:S_flow_reader → Option (S_api_Node × Bool × S_flow_reader)) (n:Nat) (h0:S_flow_reader):Option (S_api_Node × S_flow_reader) :=
 (flow_reader_pairs__o0_g1_e R_flow_reader_value__o0 n n (S_api_Node.mk 0 [] [] []) h0).bind fun o1 =>
 some (o1.1,o1.2)
abbrev rc21 (l:List (List UInt8)):D:=.rowc true (α:=List UInt8) [] E_string l
theorem ok_flow_reader_pairs__o0 (R_flow_reader_value__o0:S_flow_reader → Option (S_api_Node × Bool × S_flow_reader)) (hR_flow_reader_value__o0:hR18 R_flow_reader_value__o0) (n:Nat) (h0:S_flow_reader) (r:S_api_Node × S_flow_reader) (h:flow_reader_pairs__o0 R_flow_reader_value__o0 n h0 = some r):CallsB Tryz.prog 127 [.own 1000000 0] [(1000000,137,qc17 h0)] (.agg (qc9 r.1)) [(1000000,137,qc17 r.2)]:=by
 unfold flow_reader_pairs__o0 at h
 refine bo Tryz.f127 rfl fun F0 w0=>?_
 refine Wp.seq (rg [0,2] [2,1000000] [(0,.own 1000000 0),(2,.own 2 0)] [(2,26,[vi 0,.str [],.val (.slice none 0 0),.val (.slice none 0 0)]),(1000000,137,qc17 h0)] (To.thenN ?_))
 obtain ⟨o1,ho1,h⟩:=bind_of h
 refine kw [0,2] [2,1000000] [(0,.own 1000000 0),(2,.own 2 0)] [(2,26,[vi 0,.str [],.val (.slice none 0 0),.val (.slice none 0 0)]),(1000000,137,qc17 h0)] (Wp.weak (K':=[(0,.own 1000000 0),(2,.own 2 0)]) (L':=[(2,26,[vi 0,.str [],ls [],tn8 []]),(1000000,137,qc17 h0)]) (.cons (.refl _) (.cons (.refl _) .nil)) (.cons (.cons (.refl _) (.cons (.refl _) (.cons (.zero _ _) (.cons (.zeroT _ _ _) .nil)))) (.cons (.cons (.refl _) (.cons (.refl _) (.cons (.refl _) .nil))) .nil)) (Wp.scopeG ((ok_flow_reader_pairs__o0_g1 R_flow_reader_value__o0 hR_flow_reader_value__o0 n n).1 zx7 h0 o1 ho1 (kt [2] [2,4122,4123,1000000] [(2,.own 2 0)] [(2,26,qc20 4122 4123 o1.1),(4122,9,[rc19 o1.1.f_Keys]),(4123,26,[rc12 o1.1.f_Kids]),(1000000,137,qc17 o1.2)] (To.pre (St.settle (ks:=[4122,4123]) (kk:=[2]) (kl:=[2,4122,4123,1000000]) (K':=[(2,.own 2 0)]) (L':=[(2,26,qc20 4122 4123 o1.1),(4122,9,[rc21 o1.1.f_Keys]),(4123,26,[rc15 o1.1.f_Kids]),(1000000,137,qc17 o1.2)]) (by kernel_rfl)) (To.pre (St.sealB [2] (L':=[(2,26,qc16 o1.1),(4122,9,[rc21 o1.1.f_Keys]),(4123,26,[rc15 o1.1.f_Kids]),(1000000,137,qc17 o1.2)]) (by kernel_rfl)) (To.weak (K':=[(2,.own 2 0)]) (L':=[(2,26,qc9 o1.1),(4122,9,[rc21 o1.1.f_Keys]),(4123,26,[rc15 o1.1.f_Kids]),(1000000,137,qc17 o1.2)]) (.cons (.refl _) .nil) (.cons (.cons (.refl _) (.cons (.refl _) (.cons (.refl _) (.cons (.close _ _ _ _) .nil)))) (.cons (.cons (.refl _) .nil) (.cons (.cons (.refl _) .nil) (.cons (.cons (.refl _) (.cons (.refl _) (.cons (.refl _) .nil))) .nil)))) ?_)))))))
 cases h
 exact To.doneB hΓ [1000000] (by kernel_rfl) (by kernel_rfl)
def flow_reader_value__o0_j2 (R_flow_reader_value__o0:S_flow_reader → Option (S_api_Node × Bool × S_flow_reader)) (n:Nat) (v8:Int) (v17:Bool) (b2:S_api_Node) (b1000000:S_flow_reader):Option (Bool) :=
 if v17 = true then some v17
 else (some (v8 == 39))
theorem ok_flow_reader_value__o0_j2 (R_flow_reader_value__o0:S_flow_reader → Option (S_api_Node × Bool × S_flow_reader)) (hR_flow_reader_value__o0:hR18 R_flow_reader_value__o0) (n:Nat) (v8:Int) (v17:Bool) (b2:S_api_Node) (b1000000:S_flow_reader) (o:Bool) (h:flow_reader_value__o0_j2 R_flow_reader_value__o0 n v8 v17 b2 b1000000 = some o) {F0:Fz} {w0:Pt Tryz.prog} {Q:Exit → Act → World → Prop} (hQ:To 44 F0 w0 [(0,.own 1000000 0),(2,.own 2 0),(17,vb o)] [(2,26,qc9 b2),(1000000,137,qc17 b1000000)] .normal Q):Wp Tryz.prog 44 F0 w0 [(0,.own 1000000 0),(2,.own 2 0),(8,.val (.int .u8 v8)),(17,vb v17)] [(2,26,qc9 b2),(1000000,137,qc17 b1000000)] (cB (cA (cE (cB (cE (cB (cI (cB (cA (cB (cF Tryz.f112))))))))))) Q:=by
 unfold flow_reader_value__o0_j2 at h
 refine cn h (fun h=>?_) (fun h=>?_)
 ·refine Wp.skip (kt [0,2,17] [2,1000000] [(0,.own 1000000 0),(2,.own 2 0),(17,vb v17)] [(2,26,qc9 b2),(1000000,137,qc17 b1000000)] ?_)
  cases h
  exact hQ
 ·refine rg [0,2,17] [2,1000000] [(0,.own 1000000 0),(2,.own 2 0),(17,vb (v8 == 39))] [(2,26,qc9 b2),(1000000,137,qc17 b1000000)] (kt [0,2,17] [2,1000000] [(0,.own 1000000 0),(2,.own 2 0),(17,vb (v8 == 39))] [(2,26,qc9 b2),(1000000,137,qc17 b1000000)] ?_)
  cases h
  exact hQ
def flow_reader_value__o0_j1 (R_flow_reader_value__o0:S_flow_reader → Option (S_api_Node × Bool × S_flow_reader)) (n:Nat) (v8:Int) (b2:S_api_Node) (b1000000:S_flow_reader):Option (Sum (S_api_Node × S_flow_reader) (Bool × S_api_Node × S_flow_reader)) :=
 if (v8 == 91) = true then ((flow_reader_seq__o0 R_flow_reader_value__o0 n b1000000).bind fun r2 =>
 some (.inr (true,r2.1,r2.2)))
 else (if (v8 == 123) = true then ((flow_reader_pairs__o0 R_flow_reader_value__o0 n b1000000).bind fun r3 =>
 some (.inr (true,r3.1,r3.2)))
 else ((flow_reader_value__o0_j2 R_flow_reader_value__o0 n v8 (v8 == 34) b2 b1000000).bind fun o4 =>
 if o4 = true then ((flow_reader_quoted__o0 n b1000000).bind fun r5 =>
 lett (node_Text r5.1) fun r6 =>
 some (.inr (true,r6,r5.2)))
 else (some (.inl (b2,b1000000)))))
theorem ok_flow_reader_value__o0_j1 (R_flow_reader_value__o0:S_flow_reader → Option (S_api_Node × Bool × S_flow_reader)) (hR_flow_reader_value__o0:hR18 R_flow_reader_value__o0) (n:Nat) (v8:Int) (b2:S_api_Node) (b1000000:S_flow_reader) (o:Sum (S_api_Node × S_flow_reader) (Bool × S_api_Node × S_flow_reader)) (h:flow_reader_value__o0_j1 R_flow_reader_value__o0 n v8 b2 b1000000 = some o) {F0:Fz} {w0:Pt Tryz.prog} {Q:Exit → Act → World → Prop} (hQ:(Sum.elim (fun s=>To 44 F0 w0 [(0,.own 1000000 0),(2,.own 2 0)] [(2,26,qc9 s.1),(1000000,137,qc17 s.2)] .normal Q) (fun s=>To 44 F0 w0 [(2,.own 2 0),(3,vb s.1)] [(2,26,qc9 s.2.1),(1000000,137,qc17 s.2.2)] .ret Q)) o):Wp Tryz.prog 44 F0 w0 [(0,.own 1000000 0),(2,.own 2 0),(8,.val (.int .u8 v8))] [(2,26,qc9 b2),(1000000,137,qc17 b1000000)] (cB (cA (cB (cF Tryz.f112)))) Q:=by
 unfold flow_reader_value__o0_j1 at h
 refine Wp.block (Wp.seq (rg [0,2,8,9] [2,1000000] [(0,.own 1000000 0),(2,.own 2 0),(8,.val (.int .u8 v8)),(9,vb (v8 == 91))] [(2,26,qc9 b2),(1000000,137,qc17 b1000000)] (To.thenN (cn h (fun h=>?_) (fun h=>?_)))))
 ·refine Wp.seq ?_
  obtain ⟨r2,hr2,h⟩:=bind_of h
  refine rb [] 1 ⟨[(1000000,1000000)],[(1000000,1000000)],[.own 1000000 0],[(1000000,137,qc17 b1000000)],.agg (qc9 r2.1),[(1000000,137,qc17 r2.2)]⟩ [2,3] [2,1000000] [(2,.own 2 0),(3,vb true)] [(2,26,qc9 r2.1),(1000000,137,qc17 r2.2)] ((ok_flow_reader_seq__o0 R_flow_reader_value__o0 hR_flow_reader_value__o0 n b1000000 _ hr2)) (To.thenN (Wp.ret (To.blockR ?_)))
  cases h
  exact hQ
 ·refine Wp.seq (rg [0,2,8,13] [2,1000000] [(0,.own 1000000 0),(2,.own 2 0),(8,.val (.int .u8 v8)),(13,vb (v8 == 123))] [(2,26,qc9 b2),(1000000,137,qc17 b1000000)] (To.thenN (cn h (fun h=>?_) (fun h=>?_))))
  ·refine Wp.seq ?_
   obtain ⟨r3,hr3,h⟩:=bind_of h
   refine rb [] 1 ⟨[(1000000,1000000)],[(1000000,1000000)],[.own 1000000 0],[(1000000,137,qc17 b1000000)],.agg (qc9 r3.1),[(1000000,137,qc17 r3.2)]⟩ [2,3] [2,1000000] [(2,.own 2 0),(3,vb true)] [(2,26,qc9 r3.1),(1000000,137,qc17 r3.2)] ((ok_flow_reader_pairs__o0 R_flow_reader_value__o0 hR_flow_reader_value__o0 n b1000000 _ hr3)) (To.thenN (Wp.ret (To.blockR ?_)))
   cases h
   exact hQ
  ·refine Wp.seq (Wp.seq (rg [0,2,8,17] [2,1000000] [(0,.own 1000000 0),(2,.own 2 0),(8,.val (.int .u8 v8)),(17,vb (v8 == 34))] [(2,26,qc9 b2),(1000000,137,qc17 b1000000)] (To.thenN ?_)))
   obtain ⟨o4,ho4,h⟩:=bind_of h
   refine kw [0,2,8,17] [2,1000000] [(0,.own 1000000 0),(2,.own 2 0),(8,.val (.int .u8 v8)),(17,vb (v8 == 34))] [(2,26,qc9 b2),(1000000,137,qc17 b1000000)] (ok_flow_reader_value__o0_j2 R_flow_reader_value__o0 hR_flow_reader_value__o0 n v8 (v8 == 34) b2 b1000000 o4 ho4 (To.thenN (cn h (fun h=>?_) (fun h=>?_))))
   ·refine Wp.seq ?_
    obtain ⟨r5,hr5,h⟩:=bind_of h
    obtain ⟨r6,hr6,h⟩:=lett_of h
    refine rr [] [(2,.agg (qc9 r6))] [(1,⟨[(1000000,1000000)],[(1000000,1000000)],[.own 1000000 0],[(1000000,137,qc17 b1000000)],.str r5.1,[(1000000,137,qc17 r5.2)]⟩)] [2,3] [2,1000000] [(2,.own 2 0),(3,vb true)] [(2,26,qc9 r6),(1000000,137,qc17 r5.2)] [CbOb (CallsB Tryz.prog) 128 [.own 1000000 0] [some (137,qc17 b1000000)] ⟨[(1000000,1000000)],[(1000000,1000000)],[.own 1000000 0],[(1000000,137,qc17 b1000000)],.str r5.1,[(1000000,137,qc17 r5.2)]⟩,_] (AllP.cons (⟨(ok_flow_reader_quoted__o0 n b1000000 _ hr5),by kernel_rfl,by kernel_rfl⟩) (AllP.cons (c1 (ok_node_Text r5.1 _ hr6)) AllP.nil)) ?_
    refine To.thenN (Wp.ret (To.blockR ?_))
    cases h
    exact hQ
   ·refine Wp.skip (To.blockN (kt [0,2] [2,1000000] [(0,.own 1000000 0),(2,.own 2 0)] [(2,26,qc9 b2),(1000000,137,qc17 b1000000)] ?_))
    cases h
    exact hQ
def flow_reader_value__o0_b (R_flow_reader_value__o0:S_flow_reader → Option (S_api_Node × Bool × S_flow_reader)) (n:Nat) (h0:S_flow_reader):Option (S_api_Node × Bool × S_flow_reader) :=
 (flow_reader_next__o0 n h0).bind fun r1 =>
 (flow_reader_value__o0_j1 R_flow_reader_value__o0 n r1.1 (S_api_Node.mk 0 [] [] []) r1.2).bind fun o2 =>
 (Sum.elim (fun o2=>(flow_reader_plain__o0 n o2.2).bind fun r3 =>
 (flow_Scalar n r3.1 true).bind fun r4 =>
 some (r4.1,(!(r3.1 == [])),(S_flow_reader.mk r3.2.f_s r3.2.f_at (bif r3.2.f_bad then true else (r4.2 != 0))))) (fun o2=>some (o2.2.1,o2.1,o2.2.2))) o2
theorem ok_flow_reader_value__o0_b (R_flow_reader_value__o0:S_flow_reader → Option (S_api_Node × Bool × S_flow_reader)) (hR_flow_reader_value__o0:hR18 R_flow_reader_value__o0) (n:Nat) (h0:S_flow_reader) (r:S_api_Node × Bool × S_flow_reader) (h:flow_reader_value__o0_b R_flow_reader_value__o0 n h0 = some r):CallsB Tryz.prog 112 [.own 1000000 0] [(1000000,137,qc17 h0)] (.tup [.agg (qc9 r.1),vb r.2.1]) [(1000000,137,qc17 r.2.2)]:=by
 unfold flow_reader_value__o0_b at h
 refine bo Tryz.f112 rfl fun F0 w0=>?_
 refine Wp.seq (rg [0,2] [2,1000000] [(0,.own 1000000 0),(2,.own 2 0)] [(2,26,[vi 0,.str [],.val (.slice none 0 0),.val (.slice none 0 0)]),(1000000,137,qc17 h0)] (To.thenN (Wp.seq (Wp.seq ?_))))
 obtain ⟨r1,hr1,h⟩:=bind_of h
 refine rb [] 1 ⟨[(1000000,1000000)],[(1000000,1000000)],[.own 1000000 0],[(1000000,137,qc17 h0)],.val (.int .u8 r1.1),[(1000000,137,qc17 r1.2)]⟩ [0,2,8] [2,1000000] [(0,.own 1000000 0),(2,.own 2 0),(8,.val (.int .u8 r1.1))] [(2,26,[vi 0,.str [],.val (.slice none 0 0),.val (.slice none 0 0)]),(1000000,137,qc17 r1.2)] ((ok_flow_reader_next__o0 n h0 _ hr1)) (To.thenN ?_)
 obtain ⟨o2,ho2,h⟩:=bind_of h
 refine kw [0,2,8] [2,1000000] [(0,.own 1000000 0),(2,.own 2 0),(8,.val (.int .u8 r1.1))] [(2,26,[vi 0,.str [],.val (.slice none 0 0),.val (.slice none 0 0)]),(1000000,137,qc17 r1.2)] (Wp.weak (K':=[(0,.own 1000000 0),(2,.own 2 0),(8,.val (.int .u8 r1.1))]) (L':=[(2,26,[vi 0,.str [],ls [],tn8 []]),(1000000,137,qc17 r1.2)]) (.cons (.refl _) (.cons (.refl _) (.cons (.refl _) .nil))) (.cons (.cons (.refl _) (.cons (.refl _) (.cons (.zero _ _) (.cons (.zeroT _ _ _) .nil)))) (.cons (.cons (.refl _) (.cons (.refl _) (.cons (.refl _) .nil))) .nil)) (ok_flow_reader_value__o0_j1 R_flow_reader_value__o0 hR_flow_reader_value__o0 n r1.1 zx7 r1.2 o2 ho2 ?_))
 rcases o2 with o2 | o2
 ·replace h:=sum_l h
  refine To.thenN (Wp.seq ?_)
  obtain ⟨r3,hr3,h⟩:=bind_of h
  refine rb [] 1 ⟨[(1000000,1000000)],[(1000000,1000000)],[.own 1000000 0],[(1000000,137,qc17 o2.2)],.str r3.1,[(1000000,137,qc17 r3.2)]⟩ [0,2,4] [2,1000000] [(0,.own 1000000 0),(2,.own 2 0),(4,.str r3.1)] [(2,26,qc9 o2.1),(1000000,137,qc17 r3.2)] ((ok_flow_reader_plain__o0 n o2.2 _ hr3)) (To.thenN (Wp.seq ?_))
  obtain ⟨r4,hr4,h⟩:=bind_of h
  refine rc [] 1 [0,2,4,5,6] [2,5,1000000] [(0,.own 1000000 0),(2,.own 2 0),(4,.str r3.1),(5,.own 5 0),(6,vi r4.2)] [(2,26,qc9 o2.1),(5,26,qc9 r4.1),(1000000,137,qc17 r3.2)] (ok_flow_Scalar n r3.1 true _ hr4) (To.thenN (Wp.seq (rg [2,4,5] [2,5,1000000] [(2,.own 2 0),(4,.str r3.1),(5,.own 5 0)] [(2,26,qc9 o2.1),(5,26,qc9 r4.1),(1000000,137,[.str r3.2.f_s,vi r3.2.f_at,vb (bif r3.2.f_bad then true else (r4.2 != 0))])] (To.thenN (Wp.seq (rg [2,3] [2,1000000] [(2,.own 2 0),(3,vb (!(r3.1 == [])))] [(2,26,qc9 r4.1),(1000000,137,[.str r3.2.f_s,vi r3.2.f_at,vb (bif r3.2.f_bad then true else (r4.2 != 0))])] (To.thenN (Wp.ret ?_))))))))
  cases h
  exact To.doneB hΓ [1000000] (by kernel_rfl) (by kernel_rfl)
 ·replace h:=sum_r h
  refine To.thenR ?_
  cases h
  exact To.doneB hΓ [1000000] (by kernel_rfl) (by kernel_rfl)
def flow_reader_value__o0:Nat → S_flow_reader → Option (S_api_Node × Bool × S_flow_reader)
 | 0=>fun _=>none
 | n + 1=>flow_reader_value__o0_b (flow_reader_value__o0 n) n
theorem ok_flow_reader_value__o0 (n:Nat):∀ (h0:S_flow_reader) (r:S_api_Node × Bool × S_flow_reader),flow_reader_value__o0 n h0 = some r → CallsB Tryz.prog 112 [.own 1000000 0] [(1000000,137,qc17 h0)] (.tup [.agg (qc9 r.1),vb r.2.1]) [(1000000,137,qc17 r.2.2)]:=by
 induction n with
 | zero=>intro h0 r h; cases h
 | succ n ih=>exact fun h0 r h=>ok_flow_reader_value__o0_b (flow_reader_value__o0 n) ih n h0 r h
structure S_node_budget where
 f_left:Int
def name_Sorted (n:Nat) (a0:List (List UInt8)):Option ((List (List UInt8))) :=
 if (decide ((List.length ([]:List (List UInt8)) + List.length a0) * (16 + 1) ≤ limit)) = true then (if (decide (List.length (([]:List (List UInt8)) ++ a0) * 17 ≤ limit)) = true then (if (decide (List.length (Sh.sort (([]:List (List UInt8)) ++ a0)) * 17 ≤ limit)) = true then (some (Lib.compact (Sh.sort (([]:List (List UInt8)) ++ a0)))) else none) else none) else none
abbrev ex52 (x0:List (List UInt8)):=(([]:List (List UInt8)) ++ x0)
theorem ok_name_Sorted (n:Nat) (a0:List (List UInt8)) (r:(List (List UInt8))) (h:name_Sorted n a0 = some r):CallsX Tryz.prog 91 [ls a0] (ls r):=by
 unfold name_Sorted at h
 refine xo Tryz.f91 rfl fun F0 w0 _=>?_
 refine Wp.seq (rg [0] [] [(0,ls a0)] [] (To.thenN (Wp.seq ?_)))
 obtain ⟨hc3,h⟩:=chk_of h
 refine rr [] [(0,ls []),(2,ls (ex52 a0))] [] [3] [6] [(3,.row 6)] [(6,9,[rc19 (ex52 a0)])] [(MkOb 1 [] 0 (ls []) ∧ GoodR (ls [])),_,(AppOb [] E_string ([]:List (List UInt8)) (List.flatMap E_string a0) (List.length a0) (ls (ex52 a0)) ∧ GoodR (ls (ex52 a0)))] (AllP.cons (mkOb (by kernel_rfl) rfl (by kernel_rfl) (good_E_string _)) (AllP.cons hc3 (AllP.cons (appOb rfl rfl (good_E_string _)) AllP.nil))) (To.thenN (Wp.seq ?_))
 obtain ⟨u1,h⟩:=chk_of h
 refine rb [] 1 ⟨[(1000000,6)],[(1000000,6)],[.row 1000000],[(1000000,9,[rc19 (ex52 a0)])],.tup [],[(1000000,9,[rc19 (Sh.sort (ex52 a0))])]⟩ [3] [6] [(3,.row 6)] [(6,9,[rc19 (Sh.sort (ex52 a0))])] (Sh.sort114 u1) (To.thenN (Wp.seq ?_))
 obtain ⟨u2,h⟩:=chk_of h
 refine rb [] 1 ⟨[(1000000,6)],[],[.row 1000000],[(1000000,9,[rc19 (Sh.sort (ex52 a0))])],ls (Lib.compact (Sh.sort (ex52 a0))),[]⟩ [2] [] [(2,ls (Lib.compact (Sh.sort (ex52 a0))))] [] (Sh.compact115 u2) (To.thenN (Wp.ret ?_))
 cases h
 exact To.done hΓ (by kernel_rfl)
def node_budget_right__o0_j1 (R_node_budget_right__o0:S_api_Node → Int → S_node_budget → Option (Bool × S_node_budget)) (n:Nat) (v2:Int) (v26:Int) (b4:S_api_Node) (b1000000:S_node_budget):Option (Sum (Unit) (Bool)) :=
 if (v26 == 0) = true then (lett ((bif (b4.f_Text == []) then ((IntKind.wrap .i64 ((List.length b4.f_Keys:Int) + (List.length b4.f_Kids:Int))) == 0) else false):Bool) fun x1 =>
 some (.inr x1))
 else (if (v26 == 1) = true then (some (.inr ((IntKind.wrap .i64 ((List.length b4.f_Keys:Int) + (List.length b4.f_Kids:Int))) == 0)))
 else (if (v26 == 2) = true then (if (bif (!(b4.f_Text == [])) then true else (decide ((List.length b4.f_Keys:Int) > 0))) = true then (some (.inr false))
 else (some (.inl ())))
 else (if (v26 == 3) = true then (((if ((bif (bif (!(b4.f_Text == [])) then true else ((List.length b4.f_Keys:Int) != (List.length b4.f_Kids:Int))) then true else (decide ((List.length b4.f_Keys:Int) > b1000000.f_left))) == false) = true then name_Sorted n b4.f_Keys else some [])).bind fun r2 =>
 lett ((bif (bif (bif (!(b4.f_Text == [])) then true else ((List.length b4.f_Keys:Int) != (List.length b4.f_Kids:Int))) then true else (decide ((List.length b4.f_Keys:Int) > b1000000.f_left))) then true else ((List.length r2:Int) != (List.length b4.f_Keys:Int))):Bool) fun x3 =>
 if x3 = true then (some (.inr false))
 else (some (.inl ())))
 else (some (.inr false)))))
abbrev hR22 (R_node_budget_right__o0:S_api_Node → Int → S_node_budget → Option (Bool × S_node_budget)):Prop:=∀ (a1:S_api_Node) (a2:Int) (h0:S_node_budget) (r:Bool × S_node_budget),R_node_budget_right__o0 a1 a2 h0 = some r → CallsB Tryz.prog 58 [.own 1000000 0,.agg [vi a1.f_Kind,.str a1.f_Text,ls a1.f_Keys,tn8 a1.f_Kids],vi a2] [(1000000,87,[vi h0.f_left])] (vb r.1) [(1000000,87,[vi r.2.f_left])]
abbrev ex53 (x0:S_node_budget):Nat × Nat × List D:=(1000000,87,[vi x0.f_left])
abbrev ex54 (x0:S_api_Node):=((List.length x0.f_Keys:Int) != (List.length x0.f_Kids:Int))
abbrev ex55 (x0:S_api_Node):=((IntKind.wrap .i64 ((List.length x0.f_Keys:Int) + (List.length x0.f_Kids:Int))) == 0)
theorem ok_node_budget_right__o0_j1 (R_node_budget_right__o0:S_api_Node → Int → S_node_budget → Option (Bool × S_node_budget)) (hR_node_budget_right__o0:hR22 R_node_budget_right__o0) (n:Nat) (v2:Int) (v26:Int) (b4:S_api_Node) (b1000000:S_node_budget) (o:Sum (Unit) (Bool)) (h:node_budget_right__o0_j1 R_node_budget_right__o0 n v2 v26 b4 b1000000 = some o) {F0:Fz} {w0:Pt Tryz.prog} {Q:Exit → Act → World → Prop} (hQ:(Sum.elim (fun s=>To 111 F0 w0 [(0,.own 1000000 0),(2,vi v2),(4,.own 4 0)] [(4,26,qc9 b4),(ex53 b1000000)] .normal Q) (fun s=>To 111 F0 w0 [(6,vb s)] [(ex53 b1000000)] .ret Q)) o):Wp Tryz.prog 111 F0 w0 [(0,.own 1000000 0),(2,vi v2),(4,.own 4 0),(26,vi v26)] [(4,26,qc9 b4),(ex53 b1000000)] (cB (cA (cB (cB (cF Tryz.f58))))) Q:=by
 unfold node_budget_right__o0_j1 at h
 refine Wp.block (Wp.seq (rg [0,2,4,26,27] [4,1000000] [(0,.own 1000000 0),(2,vi v2),(4,.own 4 0),(26,vi v26),(27,vb (v26 == 0))] [(4,26,qc9 b4),(ex53 b1000000)] (To.thenN (cn h (fun h=>?_) (fun h=>?_)))))
 ·refine Wp.seq ?_
  obtain ⟨x1,hx1,h⟩:=lett_of h
  refine rg [6] [1000000] [(6,vb (bif (b4.f_Text == []) then (ex55 b4) else false))] [(ex53 b1000000)] (To.eq (K':=[(6,vb x1)]) (L':=[(ex53 b1000000)]) (by cases hx1; rfl) (by cases hx1; rfl) (To.thenN (Wp.ret (To.blockR (kt [6] [1000000] [(6,vb x1)] [(ex53 b1000000)] ?_)))))
  cases h
  exact hQ
 ·refine Wp.seq (rg [0,2,4,26,42] [4,1000000] [(0,.own 1000000 0),(2,vi v2),(4,.own 4 0),(26,vi v26),(42,vb (v26 == 1))] [(4,26,qc9 b4),(ex53 b1000000)] (To.thenN (cn h (fun h=>?_) (fun h=>?_))))
  ·refine Wp.seq (rg [6] [1000000] [(6,vb (ex55 b4))] [(ex53 b1000000)] (To.thenN (Wp.ret (To.blockR ?_))))
   cases h
   exact hQ
  ·refine Wp.seq (rg [0,2,4,26,52] [4,1000000] [(0,.own 1000000 0),(2,vi v2),(4,.own 4 0),(26,vi v26),(52,vb (v26 == 2))] [(4,26,qc9 b4),(ex53 b1000000)] (To.thenN (cn h (fun h=>?_) (fun h=>?_))))
   ·refine Wp.seq (rg [0,2,4,62] [4,1000000] [(0,.own 1000000 0),(2,vi v2),(4,.own 4 0),(62,vb (bif (!(b4.f_Text == [])) then true else (decide ((List.length b4.f_Keys:Int) > 0))))] [(4,26,qc9 b4),(ex53 b1000000)] (To.thenN (cn h (fun h=>?_) (fun h=>?_))))
    ·refine Wp.seq (rg [6] [1000000] [(6,vb false)] [(ex53 b1000000)] (To.thenN (Wp.ret (To.blockR ?_))))
     cases h
     exact hQ
    ·refine Wp.skip (To.blockN (kt [0,2,4] [4,1000000] [(0,.own 1000000 0),(2,vi v2),(4,.own 4 0)] [(4,26,qc9 b4),(ex53 b1000000)] ?_))
     cases h
     exact hQ
   ·refine Wp.seq (rg [0,2,4,63] [4,1000000] [(0,.own 1000000 0),(2,vi v2),(4,.own 4 0),(63,vb (v26 == 3))] [(4,26,qc9 b4),(ex53 b1000000)] (To.thenN (cn h (fun h=>?_) (fun h=>?_))))
    ·refine Wp.seq ?_
     obtain ⟨r2,hr2,h⟩:=bind_of h
     obtain ⟨x3,hx3,h⟩:=lett_of h
     refine Wp.regionD hm hΓ [(25,ls r2)] [0,2,4,96] [4,1000000] (K':=[(0,.own 1000000 0),(2,vi v2),(4,.own 4 0),(96,vb (bif (bif (bif (!(b4.f_Text == [])) then true else (ex54 b4)) then true else (decide ((List.length b4.f_Keys:Int) > b1000000.f_left))) then true else ((List.length r2:Int) != (List.length b4.f_Keys:Int))))]) (L':=[(4,26,qc9 b4),(ex53 b1000000)]) (ob:=[(((bif (bif (!(b4.f_Text == [])) then true else (ex54 b4)) then true else (decide ((List.length b4.f_Keys:Int) > b1000000.f_left))) == false) = true → CX Tryz.prog 91 [ls b4.f_Keys] (ls r2))]) (by kernel_rfl) (AllP.cons (fun hg=>cx (ok_name_Sorted n b4.f_Keys _ (if_t hg hr2))) AllP.nil) (To.eq (K':=[(0,.own 1000000 0),(2,vi v2),(4,.own 4 0),(96,vb x3)]) (L':=[(4,26,qc9 b4),(ex53 b1000000)]) (by cases hx3; rfl) (by cases hx3; rfl) (To.thenN (cn h (fun h=>?_) (fun h=>?_))))
     ·refine Wp.seq (rg [6] [1000000] [(6,vb false)] [(ex53 b1000000)] (To.thenN (Wp.ret (To.blockR ?_))))
      cases h
      exact hQ
     ·refine Wp.skip (To.blockN (kt [0,2,4] [4,1000000] [(0,.own 1000000 0),(2,vi v2),(4,.own 4 0)] [(4,26,qc9 b4),(ex53 b1000000)] ?_))
      cases h
      exact hQ
    ·refine Wp.seq (rg [6] [1000000] [(6,vb false)] [(ex53 b1000000)] (To.thenN (Wp.ret (To.blockR ?_))))
     cases h
     exact hQ
def node_budget_right__o0_l2 (R_node_budget_right__o0:S_api_Node → Int → S_node_budget → Option (Bool × S_node_budget)) (n:Nat) (v2:Int) (v98:List (S_api_Node)) (v99:Int):Nat → Int → S_node_budget → Option (Sum (S_node_budget) (Bool × S_node_budget))
 | 0,_,_=>none
 | k + 1,v100,b1000000=>if (decide (v100 < v99)) = true then (if (decide (0 ≤ v100 ∧ v100 < (List.length v98:Int))) = true then ((R_node_budget_right__o0 ((v98)[Int.toNat v100]?.getD (S_api_Node.mk 0 [] [] [])) (IntKind.wrap .i64 (v2 + 1)) b1000000).bind fun r2 =>
 if (!r2.1) = true then (some (.inr (false,r2.2)))
 else (node_budget_right__o0_l2 R_node_budget_right__o0 n v2 v98 v99 k (IntKind.wrap .i64 (v100 + 1)) r2.2)) else none)
 else (some (.inl b1000000))
abbrev ex56 (x0:List (S_api_Node)) (x1:Int):=((x0)[Int.toNat x1]?.getD zx7)
theorem ok_node_budget_right__o0_l2 (R_node_budget_right__o0:S_api_Node → Int → S_node_budget → Option (Bool × S_node_budget)) (hR_node_budget_right__o0:hR22 R_node_budget_right__o0) (n:Nat) (v2:Int) (v98:List (S_api_Node)) (v99:Int) {F0:Fz} {w0:Pt Tryz.prog} {Q:Exit → Act → World → Prop} (k:Nat):∀ (v100:Int) (b1000000:S_node_budget) (o:Sum (S_node_budget) (Bool × S_node_budget)),node_budget_right__o0_l2 R_node_budget_right__o0 n v2 v98 v99 k v100 b1000000 = some o → (Sum.elim (fun s=>To 111 F0 w0 [] [(1000000,87,[vi s.f_left])] (.exit 1) Q) (fun s=>To 111 F0 w0 [(6,vb s.1)] [(1000000,87,[vi s.2.f_left])] .ret Q)) o → WL Tryz.prog 111 F0 w0 [(0,.own 1000000 0),(2,vi v2),(98,rs13 v98),(99,vi v99),(100,vi v100)] [(ex53 b1000000)] (cI (cI (cB (cA (cB (cB (cB (cF Tryz.f58)))))))) Q:=by
 induction k with
 | zero=>intro v100 b1000000 o h; cases h
 | succ k ih =>
  intro v100 b1000000 o h hQ
  rw [node_budget_right__o0_l2] at h
  refine WL.round (Wp.seq (rg [0,2,98,99,100,101] [1000000] [(0,.own 1000000 0),(2,vi v2),(98,rs13 v98),(99,vi v99),(100,vi v100),(101,vb (decide (v100 < v99)))] [(ex53 b1000000)] (To.thenN (Wp.seq (cn h (fun h=>?_) (fun h=>?_))))))
  ·refine Wp.skip (To.thenN (Wp.seq (Wp.block (Wp.seq ?_))))
   obtain ⟨hc3,h⟩:=chk_of h
   refine r0 [0,2,8,98,99,100] [8,1000000] [(0,.own 1000000 0),(2,vi v2),(8,.own 8 0),(98,rs13 v98),(99,vi v99),(100,vi v100)] [(8,26,[vi ((ex56 v98 v100).f_Kind),.str ((ex56 v98 v100).f_Text),ls ((ex56 v98 v100).f_Keys),tn8 ((ex56 v98 v100).f_Kids)]),(ex53 b1000000)] (AllP.cons hc3 AllP.nil) (To.thenN (Wp.seq ?_))
   obtain ⟨r2,hr2,h⟩:=bind_of h
   refine rb [] 4 ⟨[(1000000,1000000)],[(1000000,1000000)],[.own 1000000 0,.agg [vi ((ex56 v98 v100).f_Kind),.str ((ex56 v98 v100).f_Text),ls ((ex56 v98 v100).f_Keys),tn8 ((ex56 v98 v100).f_Kids)],vi (IntKind.wrap .i64 (v2 + 1))],[(ex53 b1000000)],vb r2.1,[(1000000,87,[vi r2.2.f_left])]⟩ [0,2,98,99,100,109] [1000000] [(0,.own 1000000 0),(2,vi v2),(98,rs13 v98),(99,vi v99),(100,vi v100),(109,vb (!r2.1))] [(1000000,87,[vi r2.2.f_left])] ((hR_node_budget_right__o0 (ex56 v98 v100) (IntKind.wrap .i64 (v2 + 1)) b1000000 _ hr2)) (To.thenN (cn h (fun h=>?_) (fun h=>?_)))
   ·refine Wp.seq (rg [6] [1000000] [(6,vb false)] [(1000000,87,[vi r2.2.f_left])] (To.thenN (Wp.ret (To.blockR (To.thenR (To.thenR ?_))))))
    cases h
    exact hQ
   ·refine Wp.skip (To.blockN (To.thenN (rg [0,2,98,99,100] [1000000] [(0,.own 1000000 0),(2,vi v2),(98,rs13 v98),(99,vi v99),(100,vi (IntKind.wrap .i64 (v100 + 1)))] [(1000000,87,[vi r2.2.f_left])] (kt [0,2,98,99,100] [1000000] [(0,.own 1000000 0),(2,vi v2),(98,rs13 v98),(99,vi v99),(100,vi (IntKind.wrap .i64 (v100 + 1)))] [(1000000,87,[vi r2.2.f_left])] (To.again ?_)))))
    exact ih (IntKind.wrap .i64 (v100 + 1)) r2.2 _ h hQ
  ·refine Wp.exit (To.thenX (To.thenX (kt [] [1000000] [] [(ex53 b1000000)] ?_)))
   cases h
   exact hQ
def node_budget_right__o0_b (R_node_budget_right__o0:S_api_Node → Int → S_node_budget → Option (Bool × S_node_budget)) (n:Nat) (a1:S_api_Node) (a2:Int) (h0:S_node_budget):Option (Bool × S_node_budget) :=
 if (bif (decide ((IntKind.wrap .i64 (h0.f_left - 1)) < 0)) then true else (decide (a2 > 12))) = true then (some (false,(S_node_budget.mk (IntKind.wrap .i64 (h0.f_left - 1)))))
 else ((node_budget_right__o0_j1 R_node_budget_right__o0 n a2 a1.f_Kind a1 (S_node_budget.mk (IntKind.wrap .i64 (h0.f_left - 1)))).bind fun o1 =>
 (Sum.elim (fun o1=>(node_budget_right__o0_l2 R_node_budget_right__o0 n a2 a1.f_Kids (List.length a1.f_Kids:Int) n 0 (S_node_budget.mk (IntKind.wrap .i64 (h0.f_left - 1)))).bind fun o2 =>
 (Sum.elim (fun o2=>some (true,o2)) (fun o2=>some (o2.1,o2.2))) o2) (fun o1=>some (o1,(S_node_budget.mk (IntKind.wrap .i64 (h0.f_left - 1)))))) o1)
theorem ok_node_budget_right__o0_b (R_node_budget_right__o0:S_api_Node → Int → S_node_budget → Option (Bool × S_node_budget)) (hR_node_budget_right__o0:hR22 R_node_budget_right__o0) (n:Nat) (a1:S_api_Node) (a2:Int) (h0:S_node_budget) (r:Bool × S_node_budget) (h:node_budget_right__o0_b R_node_budget_right__o0 n a1 a2 h0 = some r):CallsB Tryz.prog 58 [.own 1000000 0,.agg (qc9 a1),vi a2] [(1000000,87,[vi h0.f_left])] (vb r.1) [(1000000,87,[vi r.2.f_left])]:=by
 unfold node_budget_right__o0_b at h
 refine bo Tryz.f58 rfl fun F0 w0=>?_
 refine Wp.seq (rg [0,2,4] [4,1000000] [(0,.own 1000000 0),(2,vi a2),(4,.own 4 0)] [(4,26,qc9 a1),(1000000,87,[vi h0.f_left])] (To.thenN (Wp.seq (Wp.seq (rg [0,2,4] [4,1000000] [(0,.own 1000000 0),(2,vi a2),(4,.own 4 0)] [(4,26,qc9 a1),(1000000,87,[vi (IntKind.wrap .i64 (h0.f_left - 1))])] (To.thenN (Wp.seq (rg [0,2,4,24] [4,1000000] [(0,.own 1000000 0),(2,vi a2),(4,.own 4 0),(24,vb (bif (decide ((IntKind.wrap .i64 (h0.f_left - 1)) < 0)) then true else (decide (a2 > 12))))] [(4,26,qc9 a1),(1000000,87,[vi (IntKind.wrap .i64 (h0.f_left - 1))])] (To.thenN (cn h (fun h=>?_) (fun h=>?_)))))))))))
 ·refine Wp.seq (rg [6] [1000000] [(6,vb false)] [(1000000,87,[vi (IntKind.wrap .i64 (h0.f_left - 1))])] (To.thenN (Wp.ret (To.thenR ?_))))
  cases h
  exact To.doneB hΓ [1000000] (by kernel_rfl) (by kernel_rfl)
 ·refine Wp.skip (To.thenN (Wp.seq (Wp.seq (rg [0,2,4,26] [4,1000000] [(0,.own 1000000 0),(2,vi a2),(4,.own 4 0),(26,vi a1.f_Kind)] [(4,26,qc9 a1),(1000000,87,[vi (IntKind.wrap .i64 (h0.f_left - 1))])] (To.thenN ?_)))))
  obtain ⟨o1,ho1,h⟩:=bind_of h
  refine kw [0,2,4,26] [4,1000000] [(0,.own 1000000 0),(2,vi a2),(4,.own 4 0),(26,vi a1.f_Kind)] [(4,26,qc9 a1),(1000000,87,[vi (IntKind.wrap .i64 (h0.f_left - 1))])] (ok_node_budget_right__o0_j1 R_node_budget_right__o0 hR_node_budget_right__o0 n a2 a1.f_Kind a1 (S_node_budget.mk (IntKind.wrap .i64 (h0.f_left - 1))) o1 ho1 ?_)
  rcases o1 with o1 | o1
  ·replace h:=sum_l h
   refine To.thenN (Wp.seq (Wp.seq (rg [0,2,98,99,100] [1000000] [(0,.own 1000000 0),(2,vi a2),(98,tn8 a1.f_Kids),(99,vi (List.length a1.f_Kids:Int)),(100,vi 0)] [(1000000,87,[vi (IntKind.wrap .i64 (h0.f_left - 1))])] (To.thenN (Wp.block ?_)))))
   obtain ⟨o2,ho2,h⟩:=bind_of h
   refine kw [0,2,98,99,100] [1000000] [(0,.own 1000000 0),(2,vi a2),(98,tn8 a1.f_Kids),(99,vi (List.length a1.f_Kids:Int)),(100,vi 0)] [(1000000,87,[vi (IntKind.wrap .i64 (h0.f_left - 1))])] (Wp.weak (K':=[(0,.own 1000000 0),(2,vi a2),(98,rs13 a1.f_Kids),(99,vi (List.length a1.f_Kids:Int)),(100,vi 0)]) (L':=[(1000000,87,[vi (IntKind.wrap .i64 (h0.f_left - 1))])]) (.cons (.refl _) (.cons (.refl _) (.cons (.opn _ _ _ _) (.cons (.refl _) (.cons (.refl _) .nil))))) (.cons (.cons (.refl _) .nil) .nil) (Wp.loopL (ok_node_budget_right__o0_l2 R_node_budget_right__o0 hR_node_budget_right__o0 n a2 a1.f_Kids (List.length a1.f_Kids:Int) n 0 (S_node_budget.mk (IntKind.wrap .i64 (h0.f_left - 1))) o2 ho2 ?_)))
   rcases o2 with o2 | o2
   ·replace h:=sum_l h
    refine To.blockX (To.thenN (Wp.seq (rg [6] [1000000] [(6,vb true)] [(1000000,87,[vi o2.f_left])] (To.thenN (Wp.ret ?_)))))
    cases h
    exact To.doneB hΓ [1000000] (by kernel_rfl) (by kernel_rfl)
   ·replace h:=sum_r h
    refine To.blockR (To.thenR ?_)
    cases h
    exact To.doneB hΓ [1000000] (by kernel_rfl) (by kernel_rfl)
  ·replace h:=sum_r h
   refine To.thenR ?_
   cases h
   exact To.doneB hΓ [1000000] (by kernel_rfl) (by kernel_rfl)
def node_budget_right__o0:Nat → S_api_Node → Int → S_node_budget → Option (Bool × S_node_budget)
 | 0=>fun _ _ _=>none
 | n + 1=>node_budget_right__o0_b (node_budget_right__o0 n) n
theorem ok_node_budget_right__o0 (n:Nat):∀ (a1:S_api_Node) (a2:Int) (h0:S_node_budget) (r:Bool × S_node_budget),node_budget_right__o0 n a1 a2 h0 = some r → CallsB Tryz.prog 58 [.own 1000000 0,.agg (qc9 a1),vi a2] [(1000000,87,[vi h0.f_left])] (vb r.1) [(1000000,87,[vi r.2.f_left])]:=by
 induction n with
 | zero=>intro a1 a2 h0 r h; cases h
 | succ n ih=>exact fun a1 a2 h0 r h=>ok_node_budget_right__o0_b (node_budget_right__o0 n) ih n a1 a2 h0 r h
def node_Right (n:Nat) (a0:S_api_Node):Option (Bool) :=
 (node_budget_right__o0 n a0 1 (S_node_budget.mk 2000)).bind fun r1 =>
 some r1.1
theorem ok_node_Right (n:Nat) (a0:S_api_Node) (r:Bool) (h:node_Right n a0 = some r):CallsX Tryz.prog 26 [.agg (qc9 a0)] (vb r):=by
 unfold node_Right at h
 refine xo Tryz.f26 rfl fun F0 w0 _=>?_
 refine Wp.seq (rg [1] [1] [(1,.own 1 0)] [(1,26,qc9 a0)] (To.thenN (Wp.seq (rg [1,3] [1,3] [(1,.own 1 0),(3,.own 3 0)] [(1,26,qc9 a0),(3,87,[vi 2000])] (To.thenN (Wp.seq ?_))))))
 obtain ⟨r1,hr1,h⟩:=bind_of h
 refine rb [] 1 ⟨[(1000000,3)],[(1000000,3)],[.own 1000000 0,.agg (qc9 a0),vi 1],[(1000000,87,[vi 2000])],vb r1.1,[(1000000,87,[vi r1.2.f_left])]⟩ [2] [] [(2,vb r1.1)] [] ((ok_node_budget_right__o0 n a0 1 (S_node_budget.mk 2000) _ hr1)) (To.thenN (Wp.ret ?_))
 cases h
 exact To.done hΓ (by kernel_rfl)
def flow_Parse (n:Nat) (a0:List UInt8):Option (S_api_Node × Int) :=
 (flow_reader_value__o0 n (S_flow_reader.mk a0 0 false)).bind fun r1 =>
 ((if (r1.2.2.f_bad == false) = true then flow_reader_next__o0 n r1.2.2 else some (0,r1.2.2))).bind fun r2 =>
 if (bif (bif r1.2.2.f_bad then true else (r2.1 != 0)) then true else (decide (r2.2.f_at < (List.length a0:Int)))) = true then (some ((S_api_Node.mk 0 [] [] []),3))
 else ((node_Right n r1.1).bind fun r3 =>
 if (!r3) = true then (some ((S_api_Node.mk 0 [] [] []),9))
 else (some (r1.1,0)))
theorem ok_flow_Parse (n:Nat) (a0:List UInt8) (r:S_api_Node × Int) (h:flow_Parse n a0 = some r):CallsX Tryz.prog 90 [.str a0] (.tup [.agg (qc9 r.1),vi r.2]):=by
 unfold flow_Parse at h
 refine xo Tryz.f90 rfl fun F0 w0 _=>?_
 refine Wp.seq (rg [0,2] [2] [(0,.str a0),(2,.own 2 0)] [(2,26,[vi 0,.str [],.val (.slice none 0 0),.val (.slice none 0 0)])] (To.thenN (Wp.seq (rg [0,2,4] [2,4] [(0,.str a0),(2,.own 2 0),(4,.own 4 0)] [(2,26,[vi 0,.str [],.val (.slice none 0 0),.val (.slice none 0 0)]),(4,137,[.str a0,vi 0,vb false])] (To.thenN (Wp.seq ?_))))))
 obtain ⟨r1,hr1,h⟩:=bind_of h
 refine rb [] 0 ⟨[(1000000,4)],[(1000000,4)],[.own 1000000 0],[(1000000,137,[.str a0,vi 0,vb false])],.tup [.agg (qc9 r1.1),vb r1.2.1],[(1000000,137,qc17 r1.2.2)]⟩ [0,2,4,5] [2,4,5] [(0,.str a0),(2,.own 2 0),(4,.own 4 0),(5,.own 5 0)] [(2,26,[vi 0,.str [],.val (.slice none 0 0),.val (.slice none 0 0)]),(4,137,qc17 r1.2.2),(5,26,qc9 r1.1)] ((ok_flow_reader_value__o0 n (S_flow_reader.mk a0 0 false) _ hr1)) (To.thenN (Wp.seq (Wp.block (Wp.seq ?_))))
 obtain ⟨r2,hr2,h⟩:=bind_of h
 refine rr [] [] [(3,⟨[(1000000,4)],[(1000000,4)],[.own 1000000 0],[(1000000,137,qc17 r1.2.2)],.val (.int .u8 r2.1),[(1000000,137,qc17 r2.2)]⟩)] [2,5,13] [2,5] [(2,.own 2 0),(5,.own 5 0),(13,vb (bif (bif r1.2.2.f_bad then true else (r2.1 != 0)) then true else (decide (r2.2.f_at < (List.length a0:Int)))))] [(2,26,[vi 0,.str [],.val (.slice none 0 0),.val (.slice none 0 0)]),(5,26,qc9 r1.1)] [((r1.2.2.f_bad == false) = true → CbOb (CallsB Tryz.prog) 113 [.own 4 0] [some (137,qc17 r1.2.2)] ⟨[(1000000,4)],[(1000000,4)],[.own 1000000 0],[(1000000,137,qc17 r1.2.2)],.val (.int .u8 r2.1),[(1000000,137,qc17 r2.2)]⟩),((r1.2.2.f_bad == false) = false → KeepOb [(4,137,qc17 r1.2.2)] ⟨[(1000000,4)],[(1000000,4)],[.own 1000000 0],[(1000000,137,qc17 r1.2.2)],.val (.int .u8 r2.1),[(1000000,137,qc17 r2.2)]⟩)] (AllP.cons (fun hg=>⟨(ok_flow_reader_next__o0 n r1.2.2 _ (if_t hg hr2)),by kernel_rfl,by kernel_rfl⟩) (AllP.cons (fun hg=>by cases if_f hg hr2; exact keepOb (by kernel_rfl)) AllP.nil)) ?_
 refine To.thenN (cn h (fun h=>?_) (fun h=>?_))
 ·refine Wp.seq (rg [2,3] [2] [(2,.own 2 0),(3,vi 3)] [(2,26,[vi 0,.str [],.val (.slice none 0 0),.val (.slice none 0 0)])] (To.thenN (Wp.ret (To.blockR (To.thenR (To.weak (K':=[(2,.own 2 0),(3,vi 3)]) (L':=[(2,26,[vi 0,.str [],ls [],tn8 []])]) (.cons (.refl _) (.cons (.refl _) .nil)) (.cons (.cons (.refl _) (.cons (.refl _) (.cons (.zero _ _) (.cons (.zeroT _ _ _) .nil)))) .nil) ?_))))))
  cases h
  exact To.done hΓ (by kernel_rfl)
 ·refine Wp.seq ?_
  obtain ⟨r3,hr3,h⟩:=bind_of h
  refine rc [] 1 [2,5,28] [2,5] [(2,.own 2 0),(5,.own 5 0),(28,vb (!r3))] [(2,26,[vi 0,.str [],.val (.slice none 0 0),.val (.slice none 0 0)]),(5,26,qc9 r1.1)] (ok_node_Right n r1.1 _ hr3) (To.thenN (cn h (fun h=>?_) (fun h=>?_)))
  ·refine Wp.seq (rg [2,3] [2] [(2,.own 2 0),(3,vi 9)] [(2,26,[vi 0,.str [],.val (.slice none 0 0),.val (.slice none 0 0)])] (To.thenN (Wp.ret (To.blockR (To.thenR (To.weak (K':=[(2,.own 2 0),(3,vi 9)]) (L':=[(2,26,[vi 0,.str [],ls [],tn8 []])]) (.cons (.refl _) (.cons (.refl _) .nil)) (.cons (.cons (.refl _) (.cons (.refl _) (.cons (.zero _ _) (.cons (.zeroT _ _ _) .nil)))) .nil) ?_))))))
   cases h
   exact To.done hΓ (by kernel_rfl)
  ·refine Wp.skip (To.blockN (To.thenN (Wp.seq (rg [2,3] [2] [(2,.own 2 0),(3,vi 0)] [(2,26,qc9 r1.1)] (To.thenN (Wp.ret ?_))))))
   cases h
   exact To.done hΓ (by kernel_rfl)
def block_reader_value__o0_j1 (n:Nat) (v1:Int) (v2:List UInt8) (v8:Int) (v25:Bool) (b6:S_api_Node) (b7:S_api_Node) (b1000000:S_block_reader):Option (Int × S_api_Node) :=
 if v25 = true then ((flow_Parse n v2).bind fun r3 =>
 some (r3.2,r3.1))
 else (some (v8,b7))
theorem ok_block_reader_value__o0_j1 (n:Nat) (v1:Int) (v2:List UInt8) (v8:Int) (v25:Bool) (b6:S_api_Node) (b7:S_api_Node) (b1000000:S_block_reader) (o:Int × S_api_Node) (h:block_reader_value__o0_j1 n v1 v2 v8 v25 b6 b7 b1000000 = some o) {F0:Fz} {w0:Pt Tryz.prog} {Q:Exit → Act → World → Prop} (hQ:To 38 F0 w0 [(0,.own 1000000 0),(1,vi v1),(6,.own 6 0),(7,.own 7 0),(8,vi o.1)] [(6,26,qc9 b6),(7,26,qc9 o.2),(ex33 b1000000),(ex34 b1000000)] .normal Q):Wp Tryz.prog 38 F0 w0 [(0,.own 1000000 0),(1,vi v1),(2,.str v2),(6,.own 6 0),(7,.own 7 0),(8,vi v8),(25,vb v25)] [(6,26,qc9 b6),(7,26,qc9 b7),(ex33 b1000000),(ex34 b1000000)] (cB (cA (cB (cB (cF Tryz.f57))))) Q:=by
 unfold block_reader_value__o0_j1 at h
 refine cn h (fun h=>?_) (fun h=>?_)
 ·obtain ⟨r3,hr3,h⟩:=bind_of h
  refine rc [] 1 [0,1,6,7,8] [6,7,504000,1000000] [(0,.own 1000000 0),(1,vi v1),(6,.own 6 0),(7,.own 7 0),(8,vi r3.2)] [(6,26,qc9 b6),(7,26,qc9 r3.1),(ex33 b1000000),(ex34 b1000000)] (ok_flow_Parse n v2 _ hr3) (kt [0,1,6,7,8] [6,7,504000,1000000] [(0,.own 1000000 0),(1,vi v1),(6,.own 6 0),(7,.own 7 0),(8,vi r3.2)] [(6,26,qc9 b6),(7,26,qc9 r3.1),(ex33 b1000000),(ex34 b1000000)] ?_)
  cases h
  exact hQ
 ·refine Wp.skip (kt [0,1,6,7,8] [6,7,504000,1000000] [(0,.own 1000000 0),(1,vi v1),(6,.own 6 0),(7,.own 7 0),(8,vi v8)] [(6,26,qc9 b6),(7,26,qc9 b7),(ex33 b1000000),(ex34 b1000000)] ?_)
  cases h
  exact hQ
def block_reader_value__o0 (n:Nat) (a1:Int) (a2:List UInt8) (h0:S_block_reader):Option (S_api_Node × S_block_reader) :=
 (flow_Scalar n a2 false).bind fun r1 =>
 if ((!((!(a2 == [])) == true) || decide (0 ≤ (0:Int) ∧ (0:Int) < (List.length a2:Int)))) = true then (if ((!((((((a2)[Int.toNat 0]?.getD 0).toNat:Int) == 91) == false) && ((!(a2 == [])) == true)) || decide (0 ≤ (0:Int) ∧ (0:Int) < (List.length a2:Int)))) = true then (lett ((bif (!(a2 == [])) then (bif ((((a2)[Int.toNat 0]?.getD 0).toNat:Int) == 91) then true else ((((a2)[Int.toNat 0]?.getD 0).toNat:Int) == 123)) else false):Bool) fun x2 =>
 (block_reader_value__o0_j1 n a1 a2 r1.2 x2 (S_api_Node.mk 0 [] [] []) r1.1 h0).bind fun o3 =>
 if (o3.1 != 0) = true then (lett (block_reader_fail__o0_s2 a1 o3.1 h0) fun r4 =>
 some (r4.1,r4.2))
 else (some (o3.2,h0))) else none) else none
theorem ok_block_reader_value__o0 (n:Nat) (a1:Int) (a2:List UInt8) (h0:S_block_reader) (r:S_api_Node × S_block_reader) (h:block_reader_value__o0 n a1 a2 h0 = some r):CallsB Tryz.prog 57 [.own 1000000 0,vi a1,.str a2] [(1000000,46,qc10 1010000 h0),(1010000,50,[rc5 h0.f_l])] (.agg (qc9 r.1)) [(200,50,[rc5 r.2.f_l]),(1000000,46,qc10 200 r.2)]:=by
 unfold block_reader_value__o0 at h
 refine bo Tryz.f57 rfl fun F0 w0=>?_
 refine nw [0,1,2] [1000000,1010000] [(1010000,504000)] [0,1,2] [504000,1000000] [(0,.own 1000000 0),(1,vi a1),(2,.str a2)] [(504000,50,[rc5 h0.f_l]),(1000000,46,qc10 504000 h0)] (Wp.seq (rg [0,1,2,6] [6,504000,1000000] [(0,.own 1000000 0),(1,vi a1),(2,.str a2),(6,.own 6 0)] [(6,26,[vi 0,.str [],.val (.slice none 0 0),.val (.slice none 0 0)]),(504000,50,[rc5 h0.f_l]),(1000000,46,qc10 504000 h0)] (To.thenN (Wp.seq ?_))))
 obtain ⟨r1,hr1,h⟩:=bind_of h
 refine rc [] 1 [0,1,2,6,7,8] [6,7,504000,1000000] [(0,.own 1000000 0),(1,vi a1),(2,.str a2),(6,.own 6 0),(7,.own 7 0),(8,vi r1.2)] [(6,26,[vi 0,.str [],.val (.slice none 0 0),.val (.slice none 0 0)]),(7,26,qc9 r1.1),(504000,50,[rc5 h0.f_l]),(1000000,46,qc10 504000 h0)] (ok_flow_Scalar n a2 false _ hr1) (To.thenN (Wp.seq (Wp.seq ?_)))
 obtain ⟨hc5,h⟩:=chk_of h
 obtain ⟨hc6,h⟩:=chk_of h
 obtain ⟨x2,hx2,h⟩:=lett_of h
 refine r0 [0,1,2,6,7,8,25] [6,7,504000,1000000] [(0,.own 1000000 0),(1,vi a1),(2,.str a2),(6,.own 6 0),(7,.own 7 0),(8,vi r1.2),(25,vb (bif (!(a2 == [])) then (bif ((ex23 a2) == 91) then true else ((ex23 a2) == 123)) else false))] [(6,26,[vi 0,.str [],.val (.slice none 0 0),.val (.slice none 0 0)]),(7,26,qc9 r1.1),(504000,50,[rc5 h0.f_l]),(1000000,46,qc10 504000 h0)] (AllP.cons hc5 (AllP.cons hc6 AllP.nil)) (To.eq (K':=[(0,.own 1000000 0),(1,vi a1),(2,.str a2),(6,.own 6 0),(7,.own 7 0),(8,vi r1.2),(25,vb x2)]) (L':=[(6,26,[vi 0,.str [],.val (.slice none 0 0),.val (.slice none 0 0)]),(7,26,qc9 r1.1),(504000,50,[rc5 h0.f_l]),(1000000,46,qc10 504000 h0)]) (by cases hx2; rfl) (by cases hx2; rfl) (To.thenN ?_))
 obtain ⟨o3,ho3,h⟩:=bind_of h
 refine kw [0,1,2,6,7,8,25] [6,7,504000,1000000] [(0,.own 1000000 0),(1,vi a1),(2,.str a2),(6,.own 6 0),(7,.own 7 0),(8,vi r1.2),(25,vb x2)] [(6,26,[vi 0,.str [],.val (.slice none 0 0),.val (.slice none 0 0)]),(7,26,qc9 r1.1),(504000,50,[rc5 h0.f_l]),(1000000,46,qc10 504000 h0)] (Wp.weak (K':=[(0,.own 1000000 0),(1,vi a1),(2,.str a2),(6,.own 6 0),(7,.own 7 0),(8,vi r1.2),(25,vb x2)]) (L':=[(6,26,[vi 0,.str [],ls [],tn8 []]),(7,26,qc9 r1.1),(504000,50,[rc5 h0.f_l]),(1000000,46,qc10 504000 h0)]) (.cons (.refl _) (.cons (.refl _) (.cons (.refl _) (.cons (.refl _) (.cons (.refl _) (.cons (.refl _) (.cons (.refl _) .nil))))))) (.cons (.cons (.refl _) (.cons (.refl _) (.cons (.zero _ _) (.cons (.zeroT _ _ _) .nil)))) (.cons (.cons (.refl _) (.cons (.refl _) (.cons (.refl _) (.cons (.refl _) .nil)))) (.cons (.cons (.refl _) .nil) (.cons (.cons (.refl _) (.cons (.refl _) (.cons (.refl _) (.cons (.refl _) .nil)))) .nil)))) (ok_block_reader_value__o0_j1 n a1 a2 r1.2 x2 zx7 r1.1 h0 o3 ho3 (To.thenN (Wp.seq (Wp.seq (rg [0,1,6,7,8,32] [6,7,504000,1000000] [(0,.own 1000000 0),(1,vi a1),(6,.own 6 0),(7,.own 7 0),(8,vi o3.1),(32,vb (o3.1 != 0))] [(6,26,[vi 0,.str [],ls [],tn8 []]),(7,26,qc9 o3.2),(504000,50,[rc5 h0.f_l]),(1000000,46,qc10 504000 h0)] (To.thenN (cn h (fun h=>?_) (fun h=>?_)))))))))
 ·refine Wp.seq ?_
  obtain ⟨r4,hr4,h⟩:=lett_of h
  refine rb [] 3 ⟨[(1000000,1000000),(1010000,504000)],[(200,504000),(1000000,1000000)],[.own 1000000 0,vi a1,vi o3.1],[(1000000,46,qc10 1010000 h0),(1010000,50,[rc5 h0.f_l])],.agg (qc9 r4.1),[(200,50,[rc5 r4.2.f_l]),(1000000,46,qc10 200 r4.2)]⟩ [6] [6,504000,1000000] [(6,.own 6 0)] [(6,26,qc9 r4.1),(504000,50,[rc5 r4.2.f_l]),(1000000,46,qc10 504000 r4.2)] ((ok_block_reader_fail__o0_s2 a1 o3.1 h0 _ hr4)) (To.thenN (Wp.ret (To.thenR (nt [6] [6,504000,1000000] [(504000,200)] [6] [6,200,1000000] [(6,.own 6 0)] [(6,26,qc9 r4.1),(200,50,[rc5 r4.2.f_l]),(1000000,46,qc10 200 r4.2)] ?_))))
  cases h
  exact To.doneB hΓ [200,1000000] (by kernel_rfl) (by kernel_rfl)
 ·refine Wp.skip (To.thenN (Wp.seq (rg [6] [6,504000,1000000] [(6,.own 6 0)] [(6,26,qc9 o3.2),(504000,50,[rc5 h0.f_l]),(1000000,46,qc10 504000 h0)] (To.thenN (Wp.ret (nt [6] [6,504000,1000000] [(504000,200)] [6] [6,200,1000000] [(6,.own 6 0)] [(6,26,qc9 o3.2),(200,50,[rc5 h0.f_l]),(1000000,46,qc10 200 h0)] ?_))))))
  cases h
  exact To.doneB hΓ [200,1000000] (by kernel_rfl) (by kernel_rfl)
def block_reader_pairs__o0_j2 (R_block_reader_block__o0_s2:S_block_reader → Option (S_api_Node × S_block_reader)) (n:Nat) (v1:Int) (v7:List UInt8) (v8:List UInt8) (v92:Bool) (b4:S_api_Node) (b5:S_api_Node) (b6:S_line_Line) (b10:S_api_Node) (b1000000:S_block_reader):Option (S_api_Node × S_block_reader) :=
 if v92 = true then ((block_reader_value__o0 n b6.f_No v8 b1000000).bind fun r6 =>
 some (r6.1,r6.2))
 else ((block_reader_inner__o0_s2 R_block_reader_block__o0_s2 n v1 true b1000000).bind fun r7 =>
 some (r7.1,r7.2))
theorem ok_block_reader_pairs__o0_j2 (R_block_reader_block__o0_s2:S_block_reader → Option (S_api_Node × S_block_reader)) (hR_block_reader_block__o0_s2:hR11 R_block_reader_block__o0_s2) (n:Nat) (v1:Int) (v7:List UInt8) (v8:List UInt8) (v92:Bool) (b4:S_api_Node) (b5:S_api_Node) (b6:S_line_Line) (b10:S_api_Node) (b1000000:S_block_reader) (o:S_api_Node × S_block_reader) (h:block_reader_pairs__o0_j2 R_block_reader_block__o0_s2 n v1 v7 v8 v92 b4 b5 b6 b10 b1000000 = some o) {F0:Fz} {w0:Pt Tryz.prog} {Q:Exit → Act → World → Prop} (hQ:To 114 F0 w0 [(0,.own 1000000 0),(1,vi v1),(4,.own 4 0),(5,.own 5 0),(7,.str v7),(10,.own 10 0)] [(4,26,qc9 b4),(5,26,qc20 4302 4303 b5),(10,26,qc9 o.1),(4302,9,[rc21 b5.f_Keys]),(4303,26,[rc12 b5.f_Kids]),(504000,50,[rc5 o.2.f_l]),(1000000,46,qc10 504000 o.2)] .normal Q):Wp Tryz.prog 114 F0 w0 [(0,.own 1000000 0),(1,vi v1),(4,.own 4 0),(5,.own 5 0),(6,.own 6 0),(7,.str v7),(8,.str v8),(10,.own 10 0),(92,vb v92)] [(4,26,qc9 b4),(5,26,qc20 4302 4303 b5),(6,50,qc3 b6),(10,26,qc9 b10),(4302,9,[rc21 b5.f_Keys]),(4303,26,[rc12 b5.f_Kids]),(ex33 b1000000),(ex34 b1000000)] (cB (cA (cB (cB (cB (cB (cB (cI (cB (cI (cI (cA (cB (cB (cI (cB (cF Tryz.f56))))))))))))))))) Q:=by
 unfold block_reader_pairs__o0_j2 at h
 refine cn h (fun h=>?_) (fun h=>?_)
 ·obtain ⟨r6,hr6,h⟩:=bind_of h
  refine rb [] 4 ⟨[(1000000,1000000),(1010000,504000)],[(200,504000),(1000000,1000000)],[.own 1000000 0,vi b6.f_No,.str v8],[(ex38 b1000000),(ex39 b1000000)],.agg (qc9 r6.1),[(200,50,[rc5 r6.2.f_l]),(1000000,46,qc10 200 r6.2)]⟩ [0,1,4,5,7,10] [4,5,10,4302,4303,504000,1000000] [(0,.own 1000000 0),(1,vi v1),(4,.own 4 0),(5,.own 5 0),(7,.str v7),(10,.own 10 0)] [(4,26,qc9 b4),(5,26,qc20 4302 4303 b5),(10,26,qc9 r6.1),(4302,9,[rc21 b5.f_Keys]),(4303,26,[rc12 b5.f_Kids]),(504000,50,[rc5 r6.2.f_l]),(1000000,46,qc10 504000 r6.2)] ((ok_block_reader_value__o0 n b6.f_No v8 b1000000 _ hr6)) (kt [0,1,4,5,7,10] [4,5,10,4302,4303,504000,1000000] [(0,.own 1000000 0),(1,vi v1),(4,.own 4 0),(5,.own 5 0),(7,.str v7),(10,.own 10 0)] [(4,26,qc9 b4),(5,26,qc20 4302 4303 b5),(10,26,qc9 r6.1),(4302,9,[rc21 b5.f_Keys]),(4303,26,[rc12 b5.f_Kids]),(504000,50,[rc5 r6.2.f_l]),(1000000,46,qc10 504000 r6.2)] ?_)
  cases h
  exact hQ
 ·obtain ⟨r7,hr7,h⟩:=bind_of h
  refine rb [] 2 ⟨[(1000000,1000000),(1010000,504000)],[(200,504000),(1000000,1000000)],[.own 1000000 0,vi v1,vb true],[(ex38 b1000000),(ex39 b1000000)],.agg (qc9 r7.1),[(200,50,[rc5 r7.2.f_l]),(1000000,46,qc10 200 r7.2)]⟩ [0,1,4,5,7,10] [4,5,10,4302,4303,504000,1000000] [(0,.own 1000000 0),(1,vi v1),(4,.own 4 0),(5,.own 5 0),(7,.str v7),(10,.own 10 0)] [(4,26,qc9 b4),(5,26,qc20 4302 4303 b5),(10,26,qc9 r7.1),(4302,9,[rc21 b5.f_Keys]),(4303,26,[rc12 b5.f_Kids]),(504000,50,[rc5 r7.2.f_l]),(1000000,46,qc10 504000 r7.2)] ((ok_block_reader_inner__o0_s2 R_block_reader_block__o0_s2 hR_block_reader_block__o0_s2 n v1 true b1000000 _ hr7)) (kt [0,1,4,5,7,10] [4,5,10,4302,4303,504000,1000000] [(0,.own 1000000 0),(1,vi v1),(4,.own 4 0),(5,.own 5 0),(7,.str v7),(10,.own 10 0)] [(4,26,qc9 b4),(5,26,qc20 4302 4303 b5),(10,26,qc9 r7.1),(4302,9,[rc21 b5.f_Keys]),(4303,26,[rc12 b5.f_Kids]),(504000,50,[rc5 r7.2.f_l]),(1000000,46,qc10 504000 r7.2)] ?_)
  cases h
  exact hQ
def block_reader_pairs__o0_l1 (R_block_reader_block__o0_s2:S_block_reader → Option (S_api_Node × S_block_reader)) (n:Nat) (v1:Int):Nat → S_api_Node → S_api_Node → S_block_reader → Option (Sum (S_api_Node × S_api_Node × S_block_reader) (S_api_Node × S_block_reader))
 | 0,_,_,_=>none
 | k + 1,b4,b5,b1000000=>if (bif (b1000000.f_e == 0) then (decide (b1000000.f_at < (List.length b1000000.f_l:Int))) else false) = true then (if (decide (0 ≤ b1000000.f_at ∧ b1000000.f_at < (List.length b1000000.f_l:Int))) = true then ((block_Entry n (((b1000000.f_l)[Int.toNat b1000000.f_at]?.getD (S_line_Line.mk 0 0 [])).f_Text)).bind fun r1 =>
 ((if (((decide (r1.2.2 > 0)) == true) && (((decide (r1.2.2 < 0)) == false) && ((((((b1000000.f_l)[Int.toNat b1000000.f_at]?.getD (S_line_Line.mk 0 0 [])).f_Indent) == v1) == true) && ((decide ((((b1000000.f_l)[Int.toNat b1000000.f_at]?.getD (S_line_Line.mk 0 0 [])).f_Indent) > v1)) == false)))) = true then name_In n b5.f_Keys r1.1 else some false)).bind fun r2 =>
 lett ((bif (decide ((((b1000000.f_l)[Int.toNat b1000000.f_at]?.getD (S_line_Line.mk 0 0 [])).f_Indent) > v1)) then true else (bif ((((b1000000.f_l)[Int.toNat b1000000.f_at]?.getD (S_line_Line.mk 0 0 [])).f_Indent) == v1) then (bif (decide (r1.2.2 < 0)) then true else (bif (decide (r1.2.2 > 0)) then r2 else false)) else false)):Bool) fun x3 =>
 if x3 = true then (lett (block_reader_fail__o0_s2 (((b1000000.f_l)[Int.toNat b1000000.f_at]?.getD (S_line_Line.mk 0 0 [])).f_No) 3 b1000000) fun r4 =>
 some (.inr (r4.1,r4.2)))
 else (lett ((bif (decide ((((b1000000.f_l)[Int.toNat b1000000.f_at]?.getD (S_line_Line.mk 0 0 [])).f_Indent) < v1)) then true else (r1.2.2 == 0)):Bool) fun x5 =>
 if x5 = true then (some (.inl (b4,b5,b1000000)))
 else ((block_reader_pairs__o0_j2 R_block_reader_block__o0_s2 n v1 r1.1 r1.2.1 (!(r1.2.1 == [])) b4 b5 ((b1000000.f_l)[Int.toNat b1000000.f_at]?.getD (S_line_Line.mk 0 0 [])) (S_api_Node.mk 0 [] [] []) (S_block_reader.mk b1000000.f_l (IntKind.wrap .i64 (b1000000.f_at + 1)) b1000000.f_no b1000000.f_e)).bind fun o6 =>
 if (decide ((List.length b5.f_Keys + List.length ([r1.1]:List (List UInt8))) * (16 + 1) ≤ limit)) = true then (if (decide ((List.length b5.f_Kids + List.length ([o6.1]:List (S_api_Node))) * (72 + 1) ≤ limit)) = true then (block_reader_pairs__o0_l1 R_block_reader_block__o0_s2 n v1 k b4 (S_api_Node.mk b5.f_Kind b5.f_Text (b5.f_Keys ++ ([r1.1]:List (List UInt8))) (b5.f_Kids ++ ([o6.1]:List (S_api_Node)))) o6.2) else none) else none))) else none)
 else (some (.inl (b4,b5,b1000000)))
end Go.Proofs.YtefojkdckfidcaaGreatDoor.M
