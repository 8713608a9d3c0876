import Derived.Test.YtaecmkldkljioaaGreatQM35d
set_option linter.all false
namespace Go.Proofs.YtaecmkldkljioaaGreat.M
open Go.RowKit Go.Proofs.YtaecmkldkljioaaGreat.RX
set_option maxRecDepth 100000
structure S_fault_Gap where
 f_Skip:Int
 f_Fail:Int
structure S_fault_Plan where
 f_l:List (S_fault_Gap)
 f_more:Int
structure S_host_Host where
 f_Store:S_store_Store
 f_plan:S_fault_Plan
 f_now:Int
def E_fault_Gap:S_fault_Gap → List D:=fun x=>[.val (.int .i64 x.f_Skip),.val (.int .i64 x.f_Fail)]
def fault_near (a0:Int):Int :=
 (if (1000:Int) < (if (0:Int) > a0 then 0 else a0) then 1000 else (if (0:Int) > a0 then 0 else a0))
theorem ok_fault_near (a0:Int) (r:Int) (h:fault_near a0 = r):CallsX Tryz.prog 101 [vi a0] (vi r):=by
 unfold fault_near at h
 refine xo Tryz.f101 rfl fun F0 w0 _=>?_
 refine Wp.seq (rg [0] [] [(0,vi a0)] [] (To.thenN (Wp.seq (rg [2] [] [(2,vi (if (1000:Int) < (if (0:Int) > a0 then 0 else a0) then 1000 else (if (0:Int) > a0 then 0 else a0)))] [] (To.thenN (Wp.ret ?_))))))
 cases h
 exact To.done hΓ (by kernel_rfl)
theorem good_E_fault_Gap (l:List (S_fault_Gap)):GoodR (.recs (S_fault_Gap.mk 0 0) E_fault_Gap l):=⟨Nat.le_of_ble_eq_true (by kernel_rfl),fun _=>⟨rfl,rfl⟩⟩
def fault_Add_j1 (n:Nat) (v5:Int) (v6:Int) (b2:S_fault_Plan) (b4:S_fault_Plan):Option (S_fault_Plan) :=
 if (decide ((List.length b2.f_l:Int) ≥ 32)) = true then some b2
 else (if (v6 == 0) = true then (some (S_fault_Plan.mk b2.f_l (IntKind.wrap .i64 (b2.f_more + v5))))
 else (if (decide (0 ≤ (List.length b2.f_l:Int) ∧ (List.length b2.f_l:Int) ≤ (IntKind.wrap .i64 ((List.length b2.f_l:Int) + 1)))) = true then (if (decide ((IntKind.wrap .i64 ((List.length b2.f_l:Int) + 1)) * ((16 + 1:Nat):Int) ≤ (limit:Int))) = true then (if (decide ((List.length (copyTo (List.replicate (Int.toNat (List.length b2.f_l:Int)) ((S_fault_Gap.mk 0 0):S_fault_Gap)) b2.f_l) + List.length ([(S_fault_Gap.mk (IntKind.wrap .i64 (b2.f_more + v5)) v6)]:List (S_fault_Gap))) * (16 + 1) ≤ limit)) = true then (lett (((copyTo (List.replicate (Int.toNat (List.length b2.f_l:Int)) ((S_fault_Gap.mk 0 0):S_fault_Gap)) b2.f_l) ++ ([(S_fault_Gap.mk (IntKind.wrap .i64 (b2.f_more + v5)) v6)]:List (S_fault_Gap))):List (S_fault_Gap)) fun x1 =>
 some (S_fault_Plan.mk x1 0)) else none) else none) else none))
abbrev zx24:S_fault_Gap:=S_fault_Gap.mk 0 0
abbrev rs25 (l:List (S_fault_Gap)):D:=.recs (α:=S_fault_Gap) zx24 E_fault_Gap l
abbrev rc26 (l:List (S_fault_Gap)):D:=.rowc false (α:=S_fault_Gap) zx24 E_fault_Gap l
abbrev rc27 (l:List (S_fault_Gap)):D:=.rowc true (α:=S_fault_Gap) zx24 E_fault_Gap l
abbrev qc28 (x:S_fault_Plan):List D:=[rs25 x.f_l,vi x.f_more]
abbrev ex19 (x0:S_fault_Plan):=(List.replicate (Int.toNat (List.length x0.f_l:Int)) (zx24:S_fault_Gap))
abbrev ex20 (x0:S_fault_Plan) (x1:Int) (x2:Int):=([(S_fault_Gap.mk (IntKind.wrap .i64 (x0.f_more + x1)) x2)]:List (S_fault_Gap))
theorem ok_fault_Add_j1 (n:Nat) (v5:Int) (v6:Int) (b2:S_fault_Plan) (b4:S_fault_Plan) (o:S_fault_Plan) (h:fault_Add_j1 n v5 v6 b2 b4 = some o) {F0:Fz} {w0:Pt Tryz.prog} {Q:Exit → Act → World → Prop} (hQ:To 51 F0 w0 [(2,.own 2 0),(4,.own 4 0)] [(2,68,qc28 o),(4,68,qc28 b4)] .normal Q):Wp Tryz.prog 51 F0 w0 [(2,.own 2 0),(4,.own 4 0),(5,vi v5),(6,vi v6)] [(2,68,qc28 b2),(4,68,qc28 b4)] (cA (cB (cB (cF Tryz.f70)))) Q:=by
 unfold fault_Add_j1 at h
 refine Wp.block (Wp.seq (rg [2,4,5,6,37] [2,4] [(2,.own 2 0),(4,.own 4 0),(5,vi v5),(6,vi v6),(37,vb (decide ((List.length b2.f_l:Int) ≥ 32)))] [(2,68,qc28 b2),(4,68,qc28 b4)] (To.thenN (cn h (fun h=>?_) (fun h=>?_)))))
 ·refine Wp.skip (To.blockN (kt [2,4] [2,4] [(2,.own 2 0),(4,.own 4 0)] [(2,68,qc28 b2),(4,68,qc28 b4)] ?_))
  cases h
  exact hQ
 ·refine Wp.seq (rg [2,4,5,6,42] [2,4] [(2,.own 2 0),(4,.own 4 0),(5,vi v5),(6,vi v6),(42,vb (v6 == 0))] [(2,68,qc28 b2),(4,68,qc28 b4)] (To.thenN (cn h (fun h=>?_) (fun h=>?_))))
  ·refine rg [2,4] [2,4] [(2,.own 2 0),(4,.own 4 0)] [(2,68,[rs25 b2.f_l,vi (IntKind.wrap .i64 (b2.f_more + v5))]),(4,68,qc28 b4)] (To.blockN ?_)
   cases h
   exact hQ
  ·refine Wp.seq ?_
   obtain ⟨hc3,h⟩:=chk_of h
   obtain ⟨hc4,h⟩:=chk_of h
   refine rr [] [(7,rs25 (ex19 b2))] [] [2,4,5,6,7] [2,4,21] [(2,.own 2 0),(4,.own 4 0),(5,vi v5),(6,vi v6),(7,.row 21)] [(2,68,qc28 b2),(4,68,qc28 b4),(21,97,[rc26 (ex19 b2)])] [_,_,(MadeOb [vi 0,vi 0] (Int.toNat (List.length b2.f_l:Int)) (rs25 (ex19 b2)) ∧ GoodR (rs25 (ex19 b2)))] (AllP.cons hc3 (AllP.cons hc4 (AllP.cons (madeOb (by kernel_rfl) (good_E_fault_Gap _)) AllP.nil))) (To.thenN (Wp.seq (rr [] [(3,rs25 (copyTo (ex19 b2) b2.f_l))] [] [2,4,5,6,7] [2,4,21] [(2,.own 2 0),(4,.own 4 0),(5,vi v5),(6,vi v6),(7,.row 21)] [(2,68,qc28 b2),(4,68,qc28 b4),(21,97,[rc26 (copyTo (ex19 b2) b2.f_l)])] [(CopyOb zx24 E_fault_Gap (ex19 b2) (List.flatMap E_fault_Gap b2.f_l) (List.length b2.f_l) (rs25 (copyTo (ex19 b2) b2.f_l)))] (AllP.cons (⟨b2.f_l,Weaks.refl _,rfl,rfl⟩) AllP.nil) (To.thenN ?_))))
   obtain ⟨hc2,h⟩:=chk_of h
   obtain ⟨x1,hx1,h⟩:=lett_of h
   refine rr [] [(7,rs25 [(S_fault_Gap.mk (IntKind.wrap .i64 (b2.f_more + v5)) v6)]),(8,rs25 ((copyTo (ex19 b2) b2.f_l) ++ (ex20 b2 v5 v6)))] [] [2,4] [2,4,34] [(2,.own 2 0),(4,.own 4 0)] [(2,68,[.row 34,vi 0]),(4,68,qc28 b4),(34,97,[rc26 ((copyTo (ex19 b2) b2.f_l) ++ (ex20 b2 v5 v6))])] [(MkOb 2 [vi (IntKind.wrap .i64 (b2.f_more + v5)),vi v6] 1 (rs25 [(S_fault_Gap.mk (IntKind.wrap .i64 (b2.f_more + v5)) v6)]) ∧ GoodR (rs25 [(S_fault_Gap.mk (IntKind.wrap .i64 (b2.f_more + v5)) v6)])),_,(AppOb zx24 E_fault_Gap (copyTo (ex19 b2) b2.f_l) (List.flatMap E_fault_Gap (ex20 b2 v5 v6)) (List.length (ex20 b2 v5 v6)) (rs25 ((copyTo (ex19 b2) b2.f_l) ++ (ex20 b2 v5 v6))) ∧ GoodR (rs25 ((copyTo (ex19 b2) b2.f_l) ++ (ex20 b2 v5 v6))))] (AllP.cons (mkOb (by kernel_rfl) rfl (by kernel_rfl) (good_E_fault_Gap _)) (AllP.cons hc2 (AllP.cons (appOb rfl rfl (good_E_fault_Gap _)) AllP.nil))) (To.eq (K':=[(2,.own 2 0),(4,.own 4 0)]) (L':=[(2,68,[.row 34,vi 0]),(4,68,qc28 b4),(34,97,[rc26 x1])]) (by cases hx1; rfl) (by cases hx1; rfl) (To.blockN (kt [2,4] [2,4,34] [(2,.own 2 0),(4,.own 4 0)] [(2,68,[.row 34,vi 0]),(4,68,qc28 b4),(34,97,[rc26 x1])] (To.pre (St.settle (ks:=[34]) (kk:=[2,4]) (kl:=[2,4,34]) (K':=[(2,.own 2 0),(4,.own 4 0)]) (L':=[(2,68,[.row 34,vi 0]),(4,68,qc28 b4),(34,97,[rc27 x1])]) (by kernel_rfl)) (To.pre (St.sealB [2] (L':=[(2,68,[rs25 x1,vi 0]),(4,68,qc28 b4),(34,97,[rc27 x1])]) (by kernel_rfl)) (kt [2,4] [2,4] [(2,.own 2 0),(4,.own 4 0)] [(2,68,[rs25 x1,vi 0]),(4,68,qc28 b4)] ?_))))))
   cases h
   exact hQ
def fault_Add (n:Nat) (a0:S_fault_Plan) (a1:S_fault_Gap):Option (S_fault_Plan) :=
 (fault_Add_j1 n (fault_near a1.f_Skip) (fault_near a1.f_Fail) a0 (S_fault_Plan.mk [] 0)).bind fun o1 =>
 some o1
abbrev zx29:S_fault_Plan:=S_fault_Plan.mk [] 0
abbrev qc30 (x:S_fault_Gap):List D:=[vi x.f_Skip,vi x.f_Fail]
theorem ok_fault_Add (n:Nat) (a0:S_fault_Plan) (a1:S_fault_Gap) (r:S_fault_Plan) (h:fault_Add n a0 a1 = some r):CallsX Tryz.prog 70 [.agg (qc28 a0),.agg (qc30 a1)] (.agg (qc28 r)):=by
 unfold fault_Add at h
 refine xo Tryz.f70 rfl fun F0 w0 _=>?_
 refine Wp.seq (rg [2,3,4] [2,3,4] [(2,.own 2 0),(3,.own 3 0),(4,.own 4 0)] [(2,68,qc28 a0),(3,97,qc30 a1),(4,68,[.val (.slice none 0 0),vi 0])] (To.thenN (Wp.seq (Wp.regionD hm hΓ [(2,vi (fault_near a1.f_Skip)),(5,vi (fault_near a1.f_Fail))] [2,4,5,6] [2,4] (K':=[(2,.own 2 0),(4,.own 4 0),(5,vi (fault_near a1.f_Skip)),(6,vi (fault_near a1.f_Fail))]) (L':=[(2,68,qc28 a0),(4,68,[.val (.slice none 0 0),vi 0])]) (ob:=[(true = true → CX Tryz.prog 101 [vi a1.f_Skip] (vi (fault_near a1.f_Skip))),(true = true → CX Tryz.prog 101 [vi a1.f_Fail] (vi (fault_near a1.f_Fail)))]) (by kernel_rfl) (AllP.cons (fun _=>cx (ok_fault_near a1.f_Skip _ rfl)) (AllP.cons (fun _=>cx (ok_fault_near a1.f_Fail _ rfl)) AllP.nil)) (To.thenN (Wp.seq ?_))))))
 obtain ⟨o1,ho1,h⟩:=bind_of h
 refine kw [2,4,5,6] [2,4] [(2,.own 2 0),(4,.own 4 0),(5,vi (fault_near a1.f_Skip)),(6,vi (fault_near a1.f_Fail))] [(2,68,qc28 a0),(4,68,[.val (.slice none 0 0),vi 0])] (Wp.weak (K':=[(2,.own 2 0),(4,.own 4 0),(5,vi (fault_near a1.f_Skip)),(6,vi (fault_near a1.f_Fail))]) (L':=[(2,68,qc28 a0),(4,68,[rs25 [],vi 0])]) (.cons (.refl _) (.cons (.refl _) (.cons (.refl _) (.cons (.refl _) .nil)))) (.cons (.cons (.refl _) (.cons (.refl _) .nil)) (.cons (.cons (.zero _ _) (.cons (.refl _) .nil)) .nil)) (ok_fault_Add_j1 n (fault_near a1.f_Skip) (fault_near a1.f_Fail) a0 zx29 o1 ho1 (To.thenN (Wp.seq (rg [4] [4] [(4,.own 4 0)] [(4,68,qc28 o1)] (To.thenN (Wp.ret ?_)))))))
 cases h
 exact To.done hΓ (by kernel_rfl)
def fault_Of_l1 (n:Nat) (v6:List (S_fault_Gap)) (v7:Int) (b2:S_fault_Plan):Nat → Int → S_fault_Plan → Option (S_fault_Plan)
 | 0,_,_=>none
 | k + 1,v8,b3=>if (decide (v8 < v7)) = true then (if (decide (0 ≤ v8 ∧ v8 < (List.length v6:Int))) = true then ((fault_Add n b3 ((v6)[Int.toNat v8]?.getD (S_fault_Gap.mk 0 0))).bind fun r1 =>
 fault_Of_l1 n v6 v7 b2 k (IntKind.wrap .i64 (v8 + 1)) r1) else none)
 else some b3
theorem ok_fault_Of_l1 (n:Nat) (v6:List (S_fault_Gap)) (v7:Int) (b2:S_fault_Plan) {F0:Fz} {w0:Pt Tryz.prog} {Q:Exit → Act → World → Prop} (k:Nat):∀ (v8:Int) (b3:S_fault_Plan) (o:S_fault_Plan),fault_Of_l1 n v6 v7 b2 k v8 b3 = some o → To 17 F0 w0 [(2,.own 2 0),(3,.own 3 0)] [(2,68,qc28 b2),(3,68,qc28 o)] (.exit 0) Q → WL Tryz.prog 17 F0 w0 [(2,.own 2 0),(3,.own 3 0),(6,rs25 v6),(7,vi v7),(8,vi v8)] [(2,68,qc28 b2),(3,68,qc28 b3)] (cI (cI (cB (cA (cB (cB (cF Tryz.f30))))))) Q:=by
 induction k with
 | zero=>intro v8 b3 o h; cases h
 | succ k ih =>
  intro v8 b3 o h hQ
  rw [fault_Of_l1] at h
  refine WL.round (Wp.seq (rg [2,3,6,7,8,9] [2,3] [(2,.own 2 0),(3,.own 3 0),(6,rs25 v6),(7,vi v7),(8,vi v8),(9,vb (decide (v8 < v7)))] [(2,68,qc28 b2),(3,68,qc28 b3)] (To.thenN (Wp.seq (cn h (fun h=>?_) (fun h=>?_))))))
  ·refine Wp.skip (To.thenN (Wp.seq (Wp.block (Wp.seq ?_))))
   obtain ⟨hc2,h⟩:=chk_of h
   refine r0 [2,3,5,6,7,8] [2,3,5] [(2,.own 2 0),(3,.own 3 0),(5,.own 5 0),(6,rs25 v6),(7,vi v7),(8,vi v8)] [(2,68,qc28 b2),(3,68,qc28 b3),(5,97,[vi (((v6)[Int.toNat v8]?.getD zx24).f_Skip),vi (((v6)[Int.toNat v8]?.getD zx24).f_Fail)])] (AllP.cons hc2 AllP.nil) (To.thenN ?_)
   obtain ⟨r1,hr1,h⟩:=bind_of h
   refine rc [] 2 [2,3,6,7,8] [2,3] [(2,.own 2 0),(3,.own 3 0),(6,rs25 v6),(7,vi v7),(8,vi v8)] [(2,68,qc28 b2),(3,68,qc28 r1)] (ok_fault_Add n b3 ((v6)[Int.toNat v8]?.getD zx24) _ hr1) (To.blockN (To.thenN (rg [2,3,6,7,8] [2,3] [(2,.own 2 0),(3,.own 3 0),(6,rs25 v6),(7,vi v7),(ex4 v8)] [(2,68,qc28 b2),(3,68,qc28 r1)] (kt [2,3,6,7,8] [2,3] [(2,.own 2 0),(3,.own 3 0),(6,rs25 v6),(7,vi v7),(ex4 v8)] [(2,68,qc28 b2),(3,68,qc28 r1)] (To.again ?_)))))
   exact ih (IntKind.wrap .i64 (v8 + 1)) r1 _ h hQ
  ·refine Wp.exit (To.thenX (To.thenX (kt [2,3] [2,3] [(2,.own 2 0),(3,.own 3 0)] [(2,68,qc28 b2),(3,68,qc28 b3)] ?_)))
   cases h
   exact hQ
def fault_Of (n:Nat) (a0:List (S_fault_Gap)):Option (S_fault_Plan) :=
 (fault_Of_l1 n a0 (List.length a0:Int) (S_fault_Plan.mk [] 0) n 0 (S_fault_Plan.mk [] 0)).bind fun o1 =>
 some o1
theorem ok_fault_Of (n:Nat) (a0:List (S_fault_Gap)) (r:S_fault_Plan) (h:fault_Of n a0 = some r):CallsX Tryz.prog 30 [rs25 a0] (.agg (qc28 r)):=by
 unfold fault_Of at h
 refine xo Tryz.f30 rfl fun F0 w0 _=>?_
 refine Wp.seq (rg [0,2] [2] [(0,rs25 a0),(2,.own 2 0)] [(2,68,[.val (.slice none 0 0),vi 0])] (To.thenN (Wp.seq (rg [0,2,3] [2,3] [(0,rs25 a0),(2,.own 2 0),(3,.own 3 0)] [(2,68,[.val (.slice none 0 0),vi 0]),(3,68,[.val (.slice none 0 0),vi 0])] (To.thenN (Wp.seq (Wp.seq (rg [2,3,6,7,8] [2,3] [(2,.own 2 0),(3,.own 3 0),(6,rs25 a0),(7,vi (List.length a0:Int)),(8,vi 0)] [(2,68,[.val (.slice none 0 0),vi 0]),(3,68,[.val (.slice none 0 0),vi 0])] (To.thenN (Wp.block ?_))))))))))
 obtain ⟨o1,ho1,h⟩:=bind_of h
 refine kw [2,3,6,7,8] [2,3] [(2,.own 2 0),(3,.own 3 0),(6,rs25 a0),(7,vi (List.length a0:Int)),(8,vi 0)] [(2,68,[.val (.slice none 0 0),vi 0]),(3,68,[.val (.slice none 0 0),vi 0])] (Wp.weak (K':=[(2,.own 2 0),(3,.own 3 0),(6,rs25 a0),(7,vi (List.length a0:Int)),(8,vi 0)]) (L':=[(2,68,[rs25 [],vi 0]),(3,68,[rs25 [],vi 0])]) (.cons (.refl _) (.cons (.refl _) (.cons (.refl _) (.cons (.refl _) (.cons (.refl _) .nil))))) (.cons (.cons (.zero _ _) (.cons (.refl _) .nil)) (.cons (.cons (.zero _ _) (.cons (.refl _) .nil)) .nil)) (Wp.loopL (ok_fault_Of_l1 n a0 (List.length a0:Int) zx29 n 0 zx29 o1 ho1 (To.blockX (To.thenN (Wp.seq (rg [2] [2] [(2,.own 2 0)] [(2,68,qc28 o1)] (To.thenN (Wp.ret ?_)))))))))
 cases h
 exact To.done hΓ (by kernel_rfl)
def host_New_o (n:Nat) (a0:List (S_fault_Gap)):Option (S_host_Host) :=
 lett (store_New_o) fun r1 =>
 (fault_Of n a0).bind fun r2 =>
 some (S_host_Host.mk r1 r2 0)
abbrev qh31 (e a b c d:Nat) (x:S_host_Host):List (Nat × Nat × List D):=(e,139,[.own a 0,rs25 x.f_plan.f_l,vi x.f_plan.f_more,vi x.f_now])::qf5 a b c d x.f_Store
theorem ok_host_New_o (n:Nat) (a0:List (S_fault_Gap)) (r:S_host_Host) (h:host_New_o n a0 = some r):CallsB Tryz.prog 27 [rs25 a0] [] (.own 1 0) (qh31 1 2 3 4 5 r):=by
 unfold host_New_o at h
 refine bo Tryz.f27 rfl fun F0 w0=>?_
 refine Wp.seq (rg [0] [] [(0,rs25 a0)] [] (To.thenN (Wp.seq ?_)))
 obtain ⟨r1,hr1,h⟩:=lett_of h
 obtain ⟨r2,hr2,h⟩:=bind_of h
 refine rr [] [(2,.agg (qc28 r2))] [(0,⟨[],[(1,3),(2,700122),(3,700123),(4,700124)],[],[],.own 1 0,(qf5 1 2 3 4 r1)⟩)] [2] [3,7,700122,700123,700124] [(2,.own 7 0)] [(3,109,[.mp 700122,.mp 700123,.mp 700124,vi r1.f_last]),(7,139,[.own 3 0,rs25 r2.f_l,vi r2.f_more,vi 0]),(700122,105,[mc3 r1.f_boxes]),(700123,107,[mc4 r1.f_nets]),(700124,107,[mc4 r1.f_vols])] [CbOb (CallsB Tryz.prog) 11 [] [] ⟨[],[(1,3),(2,700122),(3,700123),(4,700124)],[],[],.own 1 0,(qf5 1 2 3 4 r1)⟩,_] (AllP.cons (⟨(ok_store_New_o  _ hr1),by kernel_rfl,by kernel_rfl⟩) (AllP.cons (c1 (ok_fault_Of n a0 _ hr2)) AllP.nil)) ?_
 refine To.thenN (Wp.ret (nt [2] [3,7,700122,700123,700124] [(7,1),(3,2),(700122,3),(700123,4),(700124,5)] [2] [1,2,3,4,5] [(2,.own 1 0)] ((1,139,[.own 2 0,rs25 r2.f_l,vi r2.f_more,vi 0])::qf5 2 3 4 5 r1) ?_))
 cases h
 exact To.doneB hΓ [1,2,3,4,5] (by kernel_rfl) (by kernel_rfl)
def slices_Clone_fault_Gap_fault_Gap_o (n:Nat) (a0:List (S_fault_Gap)):Option ((List (S_fault_Gap))) :=
 if (decide ((List.length ([]:List (S_fault_Gap)) + List.length a0) * (16 + 1) ≤ limit)) = true then (some (([]:List (S_fault_Gap)) ++ a0)) else none
abbrev ex21 (x0:List (S_fault_Gap)):=(([]:List (S_fault_Gap)) ++ x0)
theorem ok_slices_Clone_fault_Gap_fault_Gap_o (n:Nat) (a0:List (S_fault_Gap)) (r:(List (S_fault_Gap))) (h:slices_Clone_fault_Gap_fault_Gap_o n a0 = some r):CallsB Tryz.prog 100 [rs25 a0] [] (.row 1) [(1,97,[rc26 r])]:=by
 unfold slices_Clone_fault_Gap_fault_Gap_o at h
 refine bo Tryz.f100 rfl fun F0 w0=>?_
 refine Wp.seq (rg [0] [] [(0,rs25 a0)] [] (To.thenN (Wp.seq (Wp.seq (Wp.nilR (e:=97) (neg:=false) (t0:=0) (t3:=3) (t4:=4) (α:=S_fault_Gap) (d:=zx24) (enc:=E_fault_Gap) (l:=a0) Tryz.underlying63 rfl rfl rfl rfl rfl rfl ⟨Nat.le_of_ble_eq_true (by kernel_rfl),Nat.le_of_ble_eq_true (by kernel_rfl),by decide⟩ (by kernel_rfl) (fun hl=>?_) ?_)))))
 ·subst hl
  have h:(some ([]:List (S_fault_Gap))) = some r:=by simpa using h
  refine To.thenN (Wp.cond (b:=true) (by kernel_rfl) (fun _=>?_) (fun hb=>by cases hb))
  refine Wp.seq (rg [2] [] [(2,.val (.slice none 0 0))] [] (To.thenN (Wp.ret (To.thenR (To.pre (St.vacant (t:=2) (k:=1002) (e:=97) (K':=[(2,.row 1002)]) (good_E_fault_Gap _) (by decide) (by kernel_rfl) (by kernel_rfl)) (kt [2] [1002] [(2,.row 1002)] [(1002,97,[rc26 []])] (To.pre (St.rename 1002 1 (by decide) (K':=[(2,.row 1)]) (L':=[(1,97,[rc26 []])]) (by kernel_rfl) (by kernel_rfl) (by kernel_rfl)) ?_)))))))
  cases h
  exact To.doneB hΓ [1] (by kernel_rfl) (by kernel_rfl)
 ·refine To.thenN (Wp.cond (b:=false) (by kernel_rfl) (fun hb=>by cases hb) (fun _=>(Wp.skip (To.thenN (Wp.seq ?_)))))
  obtain ⟨hc1,h⟩:=chk_of h
  refine rr [] [(0,rs25 []),(2,rs25 (ex21 a0))] [] [2] [7] [(2,.row 7)] [(7,97,[rc26 (ex21 a0)])] [(MkOb 2 [] 0 (rs25 []) ∧ GoodR (rs25 [])),_,(AppOb zx24 E_fault_Gap ([]:List (S_fault_Gap)) (List.flatMap E_fault_Gap a0) (List.length a0) (rs25 (ex21 a0)) ∧ GoodR (rs25 (ex21 a0)))] (AllP.cons (mkOb (by kernel_rfl) rfl (by kernel_rfl) (good_E_fault_Gap _)) (AllP.cons hc1 (AllP.cons (appOb rfl rfl (good_E_fault_Gap _)) AllP.nil))) (To.thenN (Wp.ret (nt [2] [7] [(7,1002)] [2] [1002] [(2,.row 1002)] [(1002,97,[rc26 (ex21 a0)])] (To.pre (St.rename 1002 1 (by decide) (K':=[(2,.row 1)]) (L':=[(1,97,[rc26 (ex21 a0)])]) (by kernel_rfl) (by kernel_rfl) (by kernel_rfl)) ?_))))
  cases h
  exact To.doneB hΓ [1] (by kernel_rfl) (by kernel_rfl)
def fault_Next_j1 (n:Nat) (v22:Bool) (b1:S_fault_Plan) (b2:S_fault_Plan) (b4:S_fault_Gap):Option (S_fault_Gap) :=
 if v22 = true then (some (S_fault_Gap.mk (IntKind.wrap .i64 (b4.f_Skip - 1)) b4.f_Fail))
 else (some (S_fault_Gap.mk b4.f_Skip (IntKind.wrap .i64 (b4.f_Fail - 1))))
theorem ok_fault_Next_j1 (n:Nat) (v22:Bool) (b1:S_fault_Plan) (b2:S_fault_Plan) (b4:S_fault_Gap) (o:S_fault_Gap) (h:fault_Next_j1 n v22 b1 b2 b4 = some o) {F0:Fz} {w0:Pt Tryz.prog} {Q:Exit → Act → World → Prop} (hQ:To 58 F0 w0 [(1,.own 1 0),(2,.own 2 0),(4,.own 4 0)] [(1,68,qc28 b1),(2,68,qc28 b2),(4,97,qc30 o)] .normal Q):Wp Tryz.prog 58 F0 w0 [(1,.own 1 0),(2,.own 2 0),(4,.own 4 0),(22,vb v22)] [(1,68,qc28 b1),(2,68,qc28 b2),(4,97,qc30 b4)] (cB (cA (cB (cB (cB (cF Tryz.f69)))))) Q:=by
 unfold fault_Next_j1 at h
 refine cn h (fun h=>?_) (fun h=>?_)
 ·refine rg [1,2,4] [1,2,4] [(1,.own 1 0),(2,.own 2 0),(4,.own 4 0)] [(1,68,qc28 b1),(2,68,qc28 b2),(4,97,[vi (IntKind.wrap .i64 (b4.f_Skip - 1)),vi b4.f_Fail])] (kt [1,2,4] [1,2,4] [(1,.own 1 0),(2,.own 2 0),(4,.own 4 0)] [(1,68,qc28 b1),(2,68,qc28 b2),(4,97,[vi (IntKind.wrap .i64 (b4.f_Skip - 1)),vi b4.f_Fail])] ?_)
  cases h
  exact hQ
 ·refine rg [1,2,4] [1,2,4] [(1,.own 1 0),(2,.own 2 0),(4,.own 4 0)] [(1,68,qc28 b1),(2,68,qc28 b2),(4,97,[vi b4.f_Skip,vi (IntKind.wrap .i64 (b4.f_Fail - 1))])] (kt [1,2,4] [1,2,4] [(1,.own 1 0),(2,.own 2 0),(4,.own 4 0)] [(1,68,qc28 b1),(2,68,qc28 b2),(4,97,[vi b4.f_Skip,vi (IntKind.wrap .i64 (b4.f_Fail - 1))])] ?_)
  cases h
  exact hQ
def fault_Next (n:Nat) (a0:S_fault_Plan):Option (S_fault_Plan × Bool) :=
 if ((List.length a0.f_l:Int) == 0) = true then (some ((S_fault_Plan.mk a0.f_l (if (0:Int) > (IntKind.wrap .i64 (a0.f_more - 1)) then 0 else (IntKind.wrap .i64 (a0.f_more - 1)))),false))
 else (if (decide (0 ≤ (0:Int) ∧ (0:Int) < (List.length a0.f_l:Int))) = true then ((fault_Next_j1 n (decide ((((a0.f_l)[Int.toNat 0]?.getD (S_fault_Gap.mk 0 0)).f_Skip) > 0)) a0 (S_fault_Plan.mk [] 0) ((a0.f_l)[Int.toNat 0]?.getD (S_fault_Gap.mk 0 0))).bind fun o1 =>
 if (decide (0 ≤ (0:Int) ∧ (0:Int) < (List.length a0.f_l:Int))) = true then (if (o1.f_Fail == 0) = true then (if (decide (0 ≤ (1:Int) ∧ (1:Int) ≤ (List.length a0.f_l:Int))) = true then (some ((S_fault_Plan.mk (List.drop (Int.toNat 1) a0.f_l) a0.f_more),(decide (o1.f_Fail < (((a0.f_l)[Int.toNat 0]?.getD (S_fault_Gap.mk 0 0)).f_Fail))))) else none)
 else ((slices_Clone_fault_Gap_fault_Gap_o n a0.f_l).bind fun r3 =>
 if (decide (0 ≤ (0:Int) ∧ (0:Int) < (List.length r3:Int))) = true then (some ((S_fault_Plan.mk (List.set r3 (Int.toNat 0) o1) a0.f_more),(decide (o1.f_Fail < (((a0.f_l)[Int.toNat 0]?.getD (S_fault_Gap.mk 0 0)).f_Fail))))) else none)) else none) else none)
abbrev ex22 (x0:S_fault_Plan):=((x0.f_l)[Int.toNat 0]?.getD zx24)
abbrev ex23 (x0:S_fault_Plan):=(if (0:Int) > (IntKind.wrap .i64 (x0.f_more - 1)) then 0 else (IntKind.wrap .i64 (x0.f_more - 1)))
abbrev ex48 (x0:S_fault_Plan):Nat × Nat × List D:=(4,97,[vi ((ex22 x0).f_Skip),vi ((ex22 x0).f_Fail)])
theorem ok_fault_Next (n:Nat) (a0:S_fault_Plan) (r:S_fault_Plan × Bool) (h:fault_Next n a0 = some r):CallsX Tryz.prog 69 [.agg (qc28 a0)] (.tup [.agg (qc28 r.1),vb r.2]):=by
 unfold fault_Next at h
 refine xo Tryz.f69 rfl fun F0 w0 _=>?_
 refine Wp.seq (rg [1,2] [1,2] [(1,.own 1 0),(2,.own 2 0)] [(1,68,qc28 a0),(2,68,[.val (.slice none 0 0),vi 0])] (To.thenN (Wp.seq (Wp.seq (rg [1,2,9] [1,2] [(1,.own 1 0),(2,.own 2 0),(9,vb ((List.length a0.f_l:Int) == 0))] [(1,68,qc28 a0),(2,68,[.val (.slice none 0 0),vi 0])] (To.thenN (cn h (fun h=>?_) (fun h=>?_))))))))
 ·refine Wp.seq (rg [1,2] [1,2] [(1,.own 1 0),(2,.own 2 0)] [(1,68,[rs25 a0.f_l,vi (ex23 a0)]),(2,68,[.val (.slice none 0 0),vi 0])] (To.thenN (Wp.seq (rg [2,3] [2] [(2,.own 2 0),(3,vb false)] [(2,68,[rs25 a0.f_l,vi (ex23 a0)])] (To.thenN (Wp.ret (To.thenR ?_)))))))
  cases h
  exact To.done hΓ (by kernel_rfl)
 ·refine Wp.skip (To.thenN (Wp.seq ?_))
  obtain ⟨hc6,h⟩:=chk_of h
  refine r0 [1,2,4] [1,2,4] [(1,.own 1 0),(2,.own 2 0),(4,.own 4 0)] [(1,68,qc28 a0),(2,68,[.val (.slice none 0 0),vi 0]),(ex48 a0)] (AllP.cons hc6 AllP.nil) (To.thenN (Wp.seq (Wp.seq (rg [1,2,4,22] [1,2,4] [(1,.own 1 0),(2,.own 2 0),(4,.own 4 0),(22,vb (decide (((ex22 a0).f_Skip) > 0)))] [(1,68,qc28 a0),(2,68,[.val (.slice none 0 0),vi 0]),(ex48 a0)] (To.thenN ?_)))))
  obtain ⟨o1,ho1,h⟩:=bind_of h
  refine kw [1,2,4,22] [1,2,4] [(1,.own 1 0),(2,.own 2 0),(4,.own 4 0),(22,vb (decide (((ex22 a0).f_Skip) > 0)))] [(1,68,qc28 a0),(2,68,[.val (.slice none 0 0),vi 0]),(ex48 a0)] (Wp.weak (K':=[(1,.own 1 0),(2,.own 2 0),(4,.own 4 0),(22,vb (decide (((ex22 a0).f_Skip) > 0)))]) (L':=[(1,68,qc28 a0),(2,68,[rs25 [],vi 0]),(ex48 a0)]) (.cons (.refl _) (.cons (.refl _) (.cons (.refl _) (.cons (.refl _) .nil)))) (.cons (.cons (.refl _) (.cons (.refl _) .nil)) (.cons (.cons (.zero _ _) (.cons (.refl _) .nil)) (.cons (.cons (.refl _) (.cons (.refl _) .nil)) .nil))) (ok_fault_Next_j1 n (decide (((ex22 a0).f_Skip) > 0)) a0 zx29 (ex22 a0) o1 ho1 (To.thenN (Wp.seq ?_))))
  obtain ⟨hc5,h⟩:=chk_of h
  refine Wp.regionD hm hΓ [] [1,2,4,5] [1,2,4] (K':=[(1,.own 1 0),(2,.own 2 0),(4,.own 4 0),(5,vb (decide (o1.f_Fail < ((ex22 a0).f_Fail))))]) (L':=[(1,68,qc28 a0),(2,68,[rs25 [],vi 0]),(4,97,qc30 o1)]) (ob:=[(decide (0 ≤ (0:Int) ∧ (0:Int) < (List.length a0.f_l:Int))) = true]) (by kernel_rfl) (AllP.cons hc5 AllP.nil) (To.thenN (Wp.seq (Wp.seq (rg [1,2,4,5,41] [1,2,4] [(1,.own 1 0),(2,.own 2 0),(4,.own 4 0),(5,vb (decide (o1.f_Fail < ((ex22 a0).f_Fail)))),(41,vb (o1.f_Fail == 0))] [(1,68,qc28 a0),(2,68,[rs25 [],vi 0]),(4,97,qc30 o1)] (To.thenN (cn h (fun h=>?_) (fun h=>?_)))))))
  ·refine Wp.seq ?_
   obtain ⟨hc2,h⟩:=chk_of h
   refine r0 [1,2,5] [1,2] [(1,.own 1 0),(2,.own 2 0),(5,vb (decide (o1.f_Fail < ((ex22 a0).f_Fail))))] [(1,68,[rs25 (List.drop (Int.toNat 1) a0.f_l),vi a0.f_more]),(2,68,[rs25 [],vi 0])] (AllP.cons hc2 AllP.nil) (To.thenN (Wp.seq (rg [2,3] [2] [(2,.own 2 0),(3,vb (decide (o1.f_Fail < ((ex22 a0).f_Fail))))] [(2,68,[rs25 (List.drop (Int.toNat 1) a0.f_l),vi a0.f_more])] (To.thenN (Wp.ret (To.thenR ?_))))))
   cases h
   exact To.done hΓ (by kernel_rfl)
  ·refine Wp.skip (To.thenN (Wp.seq ?_))
   obtain ⟨r3,hr3,h⟩:=bind_of h
   refine rb [] 2 ⟨[],[(1,50)],[rs25 a0.f_l],[],.row 1,[(1,97,[rc26 r3])]⟩ [1,2,4,5] [1,2,4,50] [(1,.own 1 0),(2,.own 2 0),(4,.own 4 0),(5,vb (decide (o1.f_Fail < ((ex22 a0).f_Fail))))] [(1,68,[.row 50,vi a0.f_more]),(2,68,[rs25 [],vi 0]),(4,97,qc30 o1),(50,97,[rc26 r3])] ((ok_slices_Clone_fault_Gap_fault_Gap_o n a0.f_l _ hr3)) (To.thenN (Wp.seq ?_))
   obtain ⟨hc4,h⟩:=chk_of h
   refine rr [] [(4,rs25 (List.set r3 (Int.toNat 0) o1))] [] [1,2,5] [1,2,50] [(1,.own 1 0),(2,.own 2 0),(5,vb (decide (o1.f_Fail < ((ex22 a0).f_Fail))))] [(1,68,[.row 50,vi a0.f_more]),(2,68,[rs25 [],vi 0]),(50,97,[rc26 (List.set r3 (Int.toNat 0) o1)])] [_,_,UpdOb zx24 E_fault_Gap r3 0 0 (qc30 o1) (rs25 (List.set r3 (Int.toNat 0) o1))] (AllP.cons hc4 (AllP.cons hc4 (AllP.cons (updOb (by kernel_rfl)) AllP.nil))) (To.thenN (Wp.seq (rg [2,3] [2,50] [(2,.own 2 0),(3,vb (decide (o1.f_Fail < ((ex22 a0).f_Fail))))] [(2,68,[.row 50,vi a0.f_more]),(50,97,[rc26 (List.set r3 (Int.toNat 0) o1)])] (To.thenN (Wp.ret (To.pre (St.settle (ks:=[50]) (kk:=[2,3]) (kl:=[2,50]) (K':=[(2,.own 2 0),(3,vb (decide (o1.f_Fail < ((ex22 a0).f_Fail))))]) (L':=[(2,68,[.row 50,vi a0.f_more]),(50,97,[rc27 (List.set r3 (Int.toNat 0) o1)])]) (by kernel_rfl)) (To.pre (St.sealB [2] (L':=[(2,68,[rs25 (List.set r3 (Int.toNat 0) o1),vi a0.f_more]),(50,97,[rc27 (List.set r3 (Int.toNat 0) o1)])]) (by kernel_rfl)) ?_)))))))
   cases h
   exact To.done hΓ (by kernel_rfl)
def host_Host_Call__o0 (n:Nat) (a1:S_api_Call) (h0:S_host_Host):Option (Int × Int × S_host_Host) :=
 (fault_Next n h0.f_plan).bind fun r1 =>
 if r1.2 = true then (some (0,15,(S_host_Host.mk h0.f_Store r1.1 h0.f_now)))
 else ((store_Store_Do__o0 n a1 h0.f_now h0.f_Store).bind fun r2 =>
 some (r2.1,r2.2.1,(S_host_Host.mk r2.2.2 r1.1 h0.f_now)))
theorem ok_host_Host_Call__o0 (n:Nat) (a1:S_api_Call) (h0:S_host_Host) (r:Int × Int × S_host_Host) (h:host_Host_Call__o0 n a1 h0 = some r):CallsB Tryz.prog 34 [.own 1000000 0,.agg (qc6 a1)] (qh31 1000000 1010060 1010061 1010062 1010063 h0) (.tup [vi r.1,vi r.2.1]) (qh31 1000000 1010060 1010061 1010062 1010063 r.2.2):=by
 unfold host_Host_Call__o0 at h
 refine bo Tryz.f34 rfl fun F0 w0=>?_
 refine Wp.seq (rg [0,3] [3,1000000,1010060,1010061,1010062,1010063] [(0,.own 1000000 0),(3,.own 3 0)] ((3,40,(E_api_Call a1))::qh31 1000000 1010060 1010061 1010062 1010063 h0) (To.thenN (Wp.seq (Wp.seq (rg [0,3,8] [3,1000000,1010060,1010061,1010062,1010063] [(0,.own 1000000 0),(3,.own 3 0),(8,vb false)] ((3,40,(E_api_Call a1))::qh31 1000000 1010060 1010061 1010062 1010063 h0) (To.thenN (Wp.cond (b:=false) (by kernel_rfl) (fun hb=>by cases hb) (fun _=>(Wp.skip (To.thenN (Wp.seq ?_)))))))))))
 refine rg [0,3] [3,1000000,1010060,1010061,1010062,1010063] [(0,.own 1000000 0),(3,.own 3 0)] ((3,40,(E_api_Call a1))::qh31 1000000 1010060 1010061 1010062 1010063 h0) (To.thenN (Wp.seq (Wp.seq ?_)))
 obtain ⟨r1,hr1,h⟩:=bind_of h
 refine rc [] 5 [0,3,6] [3,1000000,1010060,1010061,1010062,1010063] [(0,.own 1000000 0),(3,.own 3 0),(6,vb r1.2)] ((3,40,(E_api_Call a1))::(1000000,139,[.own 1010060 0,rs25 r1.1.f_l,vi r1.1.f_more,vi h0.f_now])::qf5 1010060 1010061 1010062 1010063 h0.f_Store) (ok_fault_Next n h0.f_plan _ hr1) (To.thenN (Wp.seq (rg [0,3,20] [3,1000000,1010060,1010061,1010062,1010063] [(0,.own 1000000 0),(3,.own 3 0),(20,vb r1.2)] ((3,40,(E_api_Call a1))::(1000000,139,[.own 1010060 0,rs25 r1.1.f_l,vi r1.1.f_more,vi h0.f_now])::qf5 1010060 1010061 1010062 1010063 h0.f_Store) (To.thenN (Wp.cond (b:=r1.2) (by kernel_rfl) (fun hb=>?_) (fun hb=>?_))))))
 ·replace h:=if_t hb h
  refine Wp.seq (rg [4,5] [1000000,1010060,1010061,1010062,1010063] [(4,vi 0),(5,vi 15)] ((1000000,139,[.own 1010060 0,rs25 r1.1.f_l,vi r1.1.f_more,vi h0.f_now])::qf5 1010060 1010061 1010062 1010063 h0.f_Store) (To.thenN (Wp.ret (To.thenR ?_))))
  cases h
  exact To.doneB hΓ [1000000,1010060,1010061,1010062,1010063] (by kernel_rfl) (by kernel_rfl)
 ·replace h:=if_f hb h
  refine Wp.skip (To.thenN (Wp.seq ?_))
  obtain ⟨r2,hr2,h⟩:=bind_of h
  refine Wp.regionO hm hΓ [] [] [(9,⟨[(1000000,1010060),(1010060,1010061),(1010061,1010062),(1010062,1010063)],[(1000000,1010060),(1010060,1010061),(1010061,1010062),(1010062,1010063)],[.own 1000000 0,.agg (qc6 a1),vi h0.f_now],(qf5 1000000 1010060 1010061 1010062 h0.f_Store),.tup [vi r2.1,vi r2.2.1],(qf5 1000000 1010060 1010061 1010062 r2.2.2)⟩)] [0,3,4,5,20,21,22,23,24,25,26,27,28,29,30,31,32] [3,1000000,1010060,1010061,1010062,1010063] [4,5] [1000000,1010060,1010061,1010062,1010063] (K':=[(4,vi r2.1),(5,vi r2.2.1)]) (L':=((1000000,139,[.own 1010060 0,rs25 r1.1.f_l,vi r1.1.f_more,vi h0.f_now])::qf5 1010060 1010061 1010062 1010063 r2.2.2)) (ob:=[CbOb (CallsB Tryz.prog) 12 [.own 1010060 0,.agg (qc6 a1),vi h0.f_now] (ps15 1010061 1010062 1010063 h0.f_Store) ⟨[(1000000,1010060),(1010060,1010061),(1010061,1010062),(1010062,1010063)],[(1000000,1010060),(1010060,1010061),(1010061,1010062),(1010062,1010063)],[.own 1000000 0,.agg (qc6 a1),vi h0.f_now],(qf5 1000000 1010060 1010061 1010062 h0.f_Store),.tup [vi r2.1,vi r2.2.1],(qf5 1000000 1010060 1010061 1010062 r2.2.2)⟩]) (by kernel_rfl) (by kernel_rfl) (AllP.cons (⟨(ok_store_Store_Do__o0 n a1 h0.f_now h0.f_Store _ hr2),by kernel_rfl,by kernel_rfl⟩) AllP.nil) ?_
  refine To.thenN (Wp.ret ?_)
  cases h
  exact To.doneB hΓ [1000000,1010060,1010061,1010062,1010063] (by kernel_rfl) (by kernel_rfl)
structure S_host_Event where
 f_At:Int
 f_Kind:Int
 f_Id:Int
 f_What:Int
end Go.Proofs.YtaecmkldkljioaaGreat.M
