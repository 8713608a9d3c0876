import Derived.Test.YtaecmkldkljioaaGreatQM35k
set_option linter.all false
namespace Go.Proofs.YtaecmkldkljioaaGreat.M
open Go.RowKit Go.Proofs.YtaecmkldkljioaaGreat.RX
set_option maxRecDepth 100000
theorem ok_view_Orphans_1__e (n:Nat) (a0:S_api_Container) (c0:S_api_Project) (r:Bool) (h:view_Orphans_1__e n a0 c0 = some r):CallsX Tryz.prog 115 [.agg (qc16 a0),.el (qc44 c0)] (vb r):=by
 unfold view_Orphans_1__e at h
 refine xo Tryz.f115 rfl fun F0 w0 _=>?_
 refine Wp.seq (rg [1,2] [2] [(1,.el (qc44 c0)),(2,.own 2 0)] [(ex12 a0)] (To.thenN (Wp.seq ?_)))
 obtain ⟨r1,hr1,h⟩:=bind_of h
 refine rc [] 4 [5] [] [(5,vb r1.2)] [] (ok_load_Service n c0 a0.f_Spec.f_Service _ hr1) (To.thenN (Wp.seq (rg [3] [] [(3,vb (!r1.2))] [] (To.thenN (Wp.ret ?_)))))
 cases h
 exact To.done hΓ (by kernel_rfl)
def view_those_api_Container__view_Orphans_1_e_j2 (n:Nat) (v1_0:S_api_Project) (v5:List (S_api_Container)) (v8:List (S_api_Container)) (v9:Int) (v10:Int):Option ((List (S_api_Container))) :=
 if (decide (0 ≤ v10 ∧ v10 < (List.length v8:Int))) = true then ((view_Orphans_1__e n ((v8)[Int.toNat v10]?.getD Z_api_Container) v1_0).bind fun r1 =>
 if r1 = true then (if (decide ((List.length v5 + List.length ([((v8)[Int.toNat v10]?.getD Z_api_Container)]:List (S_api_Container))) * (216 + 1) ≤ limit)) = true then (some (v5 ++ ([((v8)[Int.toNat v10]?.getD Z_api_Container)]:List (S_api_Container)))) else none)
 else some v5) else none
theorem ok_view_those_api_Container__view_Orphans_1_e_j2 (n:Nat) (v1_0:S_api_Project) (v5:List (S_api_Container)) (v8:List (S_api_Container)) (v9:Int) (v10:Int) (o:(List (S_api_Container))) (h:view_those_api_Container__view_Orphans_1_e_j2 n v1_0 v5 v8 v9 v10 = some o) {F0:Fz} {w0:Pt Tryz.prog} {Q:Exit → Act → World → Prop} (hQ:To 23 F0 w0 [(1,.fn 115 [.el (qc44 v1_0)]),(5,.row 1005),(8,rs19 v8),(9,vi v9),(10,vi v10)] [(1005,120,[rc17 o])] .normal Q):Wp Tryz.prog 23 F0 w0 [(1,.fn 115 [.el (qc44 v1_0)]),(5,.row 1005),(8,rs19 v8),(9,vi v9),(10,vi v10)] [(1005,120,[rc17 v5])] (cA (cB (cB (cI (cI (cB (cA (cB (cB (cF Tryz.f113)))))))))) Q:=by
 unfold view_those_api_Container__view_Orphans_1_e_j2 at h
 refine Wp.block (Wp.seq ?_)
 obtain ⟨hc3,h⟩:=chk_of h
 refine r0 [1,5,7,8,9,10] [7,1005] [(1,.fn 115 [.el (qc44 v1_0)]),(5,.row 1005),(7,.own 7 0),(8,rs19 v8),(9,vi v9),(10,vi v10)] [(ex46 v8 v10),(1005,120,[rc17 v5])] (AllP.cons hc3 AllP.nil) (To.thenN (Wp.seq ?_))
 obtain ⟨r1,hr1,h⟩:=bind_of h
 refine rc [] 2 [1,5,7,8,9,10,16] [7,1005] [(1,.fn 115 [.el (qc44 v1_0)]),(5,.row 1005),(7,.own 7 0),(8,rs19 v8),(9,vi v9),(10,vi v10),(16,vb r1)] [(ex46 v8 v10),(1005,120,[rc17 v5])] (ok_view_Orphans_1__e n (ex15 v8 v10) v1_0 _ hr1) (To.thenN (cn h (fun h=>?_) (fun h=>?_)))
 ·obtain ⟨hc2,h⟩:=chk_of h
  refine rr [] [(2,rs19 ([(ex15 v8 v10)])),(3,rs19 (v5 ++ (ex49 v8 v10)))] [] [1,5,8,9,10] [20] [(1,.fn 115 [.el (qc44 v1_0)]),(5,.row 20),(8,rs19 v8),(9,vi v9),(10,vi v10)] [(20,120,[rc17 (v5 ++ (ex49 v8 v10))])] [(MkOb 18 [vi ((ex15 v8 v10).f_Id),.str ((ex15 v8 v10).f_Spec.f_Name),.str (ex42 v8 v10),.str (ex43 v8 v10),vi (ex45 v8 v10),.str ((ex15 v8 v10).f_Spec.f_Hash),ls ((ex15 v8 v10).f_Spec.f_Nets),ls ((ex15 v8 v10).f_Spec.f_Vols),.str (ex41 v8 v10),vi (ex39 v8 v10),vi (ex40 v8 v10),vi (ex38 v8 v10),vi (ex44 v8 v10),vi ((ex15 v8 v10).f_Spec.f_Tries),vi ((ex15 v8 v10).f_State),vi ((ex15 v8 v10).f_Code),vi ((ex15 v8 v10).f_Health),vi ((ex15 v8 v10).f_Runs)] 1 (rs19 ([(ex15 v8 v10)])) ∧ GoodR (rs19 ([(ex15 v8 v10)]))),_,(ex53 v5 v8 v10)] (AllP.cons (mkOb (by kernel_rfl) rfl (by kernel_rfl) (good_E_api_Container _)) (AllP.cons hc2 (AllP.cons (appOb rfl rfl (good_E_api_Container _)) AllP.nil))) (To.blockN (nt [1,5,8,9,10] [20] [(20,1005)] [1,5,8,9,10] [1005] [(1,.fn 115 [.el (qc44 v1_0)]),(5,.row 1005),(8,rs19 v8),(9,vi v9),(10,vi v10)] [(1005,120,[rc17 (v5 ++ (ex49 v8 v10))])] ?_))
  cases h
  exact hQ
 ·refine Wp.skip (To.blockN (kt [1,5,8,9,10] [1005] [(1,.fn 115 [.el (qc44 v1_0)]),(5,.row 1005),(8,rs19 v8),(9,vi v9),(10,vi v10)] [(1005,120,[rc17 v5])] ?_))
  cases h
  exact hQ
def view_those_api_Container__view_Orphans_1_e_l1 (n:Nat) (v1_0:S_api_Project) (v8:List (S_api_Container)) (v9:Int):Nat → (List (S_api_Container)) → Int → Option ((List (S_api_Container)))
 | 0,_,_=>none
 | k + 1,v5,v10=>if (decide (v10 < v9)) = true then ((view_those_api_Container__view_Orphans_1_e_j2 n v1_0 v5 v8 v9 v10).bind fun o1 =>
 view_those_api_Container__view_Orphans_1_e_l1 n v1_0 v8 v9 k o1 (IntKind.wrap .i64 (v10 + 1)))
 else some v5
theorem ok_view_those_api_Container__view_Orphans_1_e_l1 (n:Nat) (v1_0:S_api_Project) (v8:List (S_api_Container)) (v9:Int) {F0:Fz} {w0:Pt Tryz.prog} {Q:Exit → Act → World → Prop} (k:Nat):∀ (v5:List (S_api_Container)) (v10:Int) (o:(List (S_api_Container))),view_those_api_Container__view_Orphans_1_e_l1 n v1_0 v8 v9 k v5 v10 = some o → To 23 F0 w0 [(5,.row 1005)] [(1005,120,[rc17 o])] (.exit 0) Q → WL Tryz.prog 23 F0 w0 [(1,.fn 115 [.el (qc44 v1_0)]),(5,.row 1005),(8,rs19 v8),(9,vi v9),(10,vi v10)] [(1005,120,[rc17 v5])] (cI (cI (cB (cA (cB (cB (cF Tryz.f113))))))) Q:=by
 induction k with
 | zero=>intro v5 v10 o h; cases h
 | succ k ih =>
  intro v5 v10 o h hQ
  rw [view_those_api_Container__view_Orphans_1_e_l1] at h
  refine WL.round (Wp.seq (rg [1,5,8,9,10,11] [1005] [(1,.fn 115 [.el (qc44 v1_0)]),(5,.row 1005),(8,rs19 v8),(9,vi v9),(10,vi v10),(11,vb (decide (v10 < v9)))] [(1005,120,[rc17 v5])] (To.thenN (Wp.seq (cn h (fun h=>?_) (fun h=>?_))))))
  ·refine Wp.skip (To.thenN (Wp.seq ?_))
   obtain ⟨o1,ho1,h⟩:=bind_of h
   refine kw [1,5,8,9,10] [1005] [(1,.fn 115 [.el (qc44 v1_0)]),(5,.row 1005),(8,rs19 v8),(9,vi v9),(10,vi v10)] [(1005,120,[rc17 v5])] (ok_view_those_api_Container__view_Orphans_1_e_j2 n v1_0 v5 v8 v9 v10 o1 ho1 (To.thenN (rg [1,5,8,9,10] [1005] [(1,.fn 115 [.el (qc44 v1_0)]),(5,.row 1005),(8,rs19 v8),(9,vi v9),(ex18 v10)] [(1005,120,[rc17 o1])] (kt [1,5,8,9,10] [1005] [(1,.fn 115 [.el (qc44 v1_0)]),(5,.row 1005),(8,rs19 v8),(9,vi v9),(ex18 v10)] [(1005,120,[rc17 o1])] (To.again ?_)))))
   exact ih o1 (IntKind.wrap .i64 (v10 + 1)) _ h hQ
  ·refine Wp.exit (To.thenX (To.thenX (kt [5] [1005] [(5,.row 1005)] [(1005,120,[rc17 v5])] ?_)))
   cases h
   exact hQ
def view_those_api_Container__view_Orphans_1_e (n:Nat) (a0:List (S_api_Container)) (c0:S_api_Project):Option ((List (S_api_Container))) :=
 (view_those_api_Container__view_Orphans_1_e_l1 n c0 a0 (List.length a0:Int) n ([]:List (S_api_Container)) 0).bind fun o1 =>
 some o1
theorem ok_view_those_api_Container__view_Orphans_1_e (n:Nat) (a0:List (S_api_Container)) (c0:S_api_Project) (r:(List (S_api_Container))) (h:view_those_api_Container__view_Orphans_1_e n a0 c0 = some r):CallsX Tryz.prog 113 [rs19 a0,.fn 115 [.el (qc44 c0)]] (rs19 r):=by
 unfold view_those_api_Container__view_Orphans_1_e at h
 refine xo Tryz.f113 rfl fun F0 w0 _=>?_
 refine Wp.seq (rg [0,1] [] [(0,rs19 a0),(1,.fn 115 [.el (qc44 c0)])] [] (To.thenN (Wp.seq (rg [0,1,5] [] [(0,rs19 a0),(1,.fn 115 [.el (qc44 c0)]),(5,.val (.slice none 0 0))] [] (To.thenN (Wp.seq (Wp.seq (rg [1,5,8,9,10] [] [(1,.fn 115 [.el (qc44 c0)]),(5,.val (.slice none 0 0)),(8,rs19 a0),(ex26 a0),(10,vi 0)] [] (To.thenN (Wp.block ?_))))))))))
 obtain ⟨o1,ho1,h⟩:=bind_of h
 refine kw [1,5,8,9,10] [] [(1,.fn 115 [.el (qc44 c0)]),(5,.val (.slice none 0 0)),(8,rs19 a0),(ex26 a0),(10,vi 0)] [] (Wp.pre (St.vacant (t:=5) (k:=1005) (e:=120) (K':=[(1,.fn 115 [.el (qc44 c0)]),(5,.row 1005),(8,rs19 a0),(ex26 a0),(10,vi 0)]) (good_E_api_Container _) (by decide) (by kernel_rfl) (by kernel_rfl)) (kw [1,5,8,9,10] [1005] [(1,.fn 115 [.el (qc44 c0)]),(5,.row 1005),(8,rs19 a0),(ex26 a0),(10,vi 0)] [(1005,120,[rc17 []])] (Wp.loopL (ok_view_those_api_Container__view_Orphans_1_e_l1 n c0 a0 (List.length a0:Int) n ([]:List (S_api_Container)) 0 o1 ho1 (To.blockX (To.thenN (Wp.seq (rg [4] [1005] [(4,.row 1005)] [(1005,120,[rc17 o1])] (To.thenN (Wp.ret ?_))))))))))
 refine To.pre (St.settle (ks:=[1005]) (kk:=[4]) (kl:=[1005]) (K':=[(4,.row 1005)]) (L':=[(1005,120,[rc20 o1])]) (by kernel_rfl)) (To.pre (St.sealK [4] (K':=[(4,rs19 o1)]) (by kernel_rfl)) ?_)
 cases h
 exact To.done hΓ (by kernel_rfl)
def view_Orphans (n:Nat) (a0:S_view_Seen) (a1:S_api_Project):Option ((List (S_api_Container))) :=
 (view_Mine n a0 a1.f_Name).bind fun r1 =>
 (view_those_api_Container__view_Orphans_1_e n r1 a1).bind fun r2 =>
 some r2
theorem ok_view_Orphans (n:Nat) (a0:S_view_Seen) (a1:S_api_Project) (r:(List (S_api_Container))) (h:view_Orphans n a0 a1 = some r):CallsX Tryz.prog 82 [.agg (qc33 a0),.agg (qc44 a1)] (rs19 r):=by
 unfold view_Orphans at h
 refine xo Tryz.f82 rfl fun F0 w0 _=>?_
 refine Wp.seq (rg [2,3] [2,3] [(2,.own 2 0),(3,.own 3 0)] [(2,102,qc33 a0),(3,164,qc44 a1)] (To.thenN (Wp.seq ?_)))
 obtain ⟨r1,hr1,h⟩:=bind_of h
 obtain ⟨r2,hr2,h⟩:=bind_of h
 refine rr [(4,[3])] [(3,rs19 r1),(5,rs19 r2)] [] [4] [] [(4,rs19 r2)] [] [_,_] (AllP.cons (c1 (ok_view_Mine n a0 a1.f_Name _ hr1)) (AllP.cons (c1 (ok_view_those_api_Container__view_Orphans_1_e n r1 a1 _ hr2)) AllP.nil)) (To.thenN (Wp.ret ?_))
 cases h
 exact To.done hΓ (by kernel_rfl)
theorem good_E_api_Service (l:List (S_api_Service)):GoodR (.recs Z_api_Service E_api_Service l):=⟨Nat.le_of_ble_eq_true (by kernel_rfl),fun _=>⟨rfl,rfl⟩⟩
def law36_awake (n:Nat):Option (Bool) :=
 (view_Service n (S_view_Seen.mk ([(S_api_Container.mk 1 (S_api_Spec.mk [] [112] [119,101,98] 0 [] [] [] (S_api_Check.mk [] 0 0 0) 0 0) 0 0 0 0)]) [] []) [112] [119,101,98]).bind fun r1 =>
 ((if (((List.length r1:Int) == 1) == true) = true then view_Orphans n (S_view_Seen.mk ([(S_api_Container.mk 1 (S_api_Spec.mk [] [112] [119,101,98] 0 [] [] [] (S_api_Check.mk [] 0 0 0) 0 0) 0 0 0 0)]) [] []) (S_api_Project.mk [112] ([(S_api_Service.mk [100,98] [] [] [] [] [] [] [] [] 0 (S_api_Check.mk [] 0 0 0) 0 0 0 0)]) [] []) else some [])).bind fun r2 =>
 ((if ((bif ((List.length r1:Int) == 1) then ((List.length r2:Int) == 1) else false) == true) = true then view_Mine n (S_view_Seen.mk ([(S_api_Container.mk 1 (S_api_Spec.mk [] [112] [119,101,98] 0 [] [] [] (S_api_Check.mk [] 0 0 0) 0 0) 0 0 0 0)]) [] []) [113] else some [])).bind fun r3 =>
 lett ((bif (bif ((List.length r1:Int) == 1) then ((List.length r2:Int) == 1) else false) then ((List.length r3:Int) == 0) else false):Bool) fun x4 =>
 some x4
abbrev rc45 (l:List (S_api_Service)):D:=.rowc false (α:=S_api_Service) Z_api_Service E_api_Service l
theorem ok_law36_awake (n:Nat) (r:Bool) (h:law36_awake n = some r):CallsX Tryz.prog 48 [] (vb r):=by
 unfold law36_awake at h
 refine xo Tryz.f48 rfl fun F0 w0 _=>?_
 refine Wp.seq (rg [] [] [] [] (To.thenN (Wp.seq (rr [] [(2,rs19 ([(S_api_Container.mk 1 (S_api_Spec.mk [] [112] [119,101,98] 0 [] [] [] zx13 0 0) 0 0 0 0)]))] [] [1] [1,5] [(1,.own 1 0)] [(1,102,[.row 5,.val (.slice none 0 0),.val (.slice none 0 0)]),(5,120,[rc17 ([(S_api_Container.mk 1 (S_api_Spec.mk [] [112] [119,101,98] 0 [] [] [] zx13 0 0) 0 0 0 0)])])] [(MkOb 18 [vi 1,.str [],.str [112],.str [119,101,98],vi 0,.str [],.val (.slice none 0 0),.val (.slice none 0 0),.str [],vi 0,vi 0,vi 0,vi 0,vi 0,vi 0,vi 0,vi 0,vi 0] 1 (rs19 ([(S_api_Container.mk 1 (S_api_Spec.mk [] [112] [119,101,98] 0 [] [] [] zx13 0 0) 0 0 0 0)])) ∧ GoodR (rs19 ([(S_api_Container.mk 1 (S_api_Spec.mk [] [112] [119,101,98] 0 [] [] [] zx13 0 0) 0 0 0 0)])))] (AllP.cons (mkObW (weaks_eq (ds:=[vi 1,.str [],.str [112],.str [119,101,98],vi 0,.str [],.val (.slice none 0 0),.val (.slice none 0 0),.str [],vi 0,vi 0,vi 0,vi 0,vi 0,vi 0,vi 0,vi 0,vi 0]) (es:=[vi 1,.str [],.str [112],.str [119,101,98],vi 0,.str [],ls [],ls [],.str [],vi 0,vi 0,vi 0,vi 0,vi 0,vi 0,vi 0,vi 0,vi 0]) (by kernel_rfl) (.cons (.refl _) (.cons (.refl _) (.cons (.refl _) (.cons (.refl _) (.cons (.refl _) (.cons (.refl _) (.cons (.zero _ _) (.cons (.zero _ _) (.cons (.refl _) (.cons (.refl _) (.cons (.refl _) (.cons (.refl _) (.cons (.refl _) (.cons (.refl _) (.cons (.refl _) (.cons (.refl _) (.cons (.refl _) (.cons (.refl _) .nil)))))))))))))))))) (by kernel_rfl)) rfl (by kernel_rfl) (good_E_api_Container _)) AllP.nil) (To.thenN (Wp.seq (rr [] [(1,rs42 ([(S_api_Service.mk [100,98] [] [] [] [] [] [] [] [] 0 zx13 0 0 0 0)]))] [] [1,2] [1,2,5,8] [(1,.own 1 0),(2,.own 2 0)] [(1,102,[.row 5,.val (.slice none 0 0),.val (.slice none 0 0)]),(2,164,[.str [112],.row 8,.val (.slice none 0 0),.val (.slice none 0 0)]),(5,120,[rc17 ([(S_api_Container.mk 1 (S_api_Spec.mk [] [112] [119,101,98] 0 [] [] [] zx13 0 0) 0 0 0 0)])]),(8,161,[rc45 ([(S_api_Service.mk [100,98] [] [] [] [] [] [] [] [] 0 zx13 0 0 0 0)])])] [(MkOb 18 [.str [100,98],.str [],.val (.slice none 0 0),.val (.slice none 0 0),.val (.slice none 0 0),.val (.slice none 0 0),.val (.slice none 0 0),.val (.slice none 0 0),.val (.slice none 0 0),vi 0,.str [],vi 0,vi 0,vi 0,vi 0,vi 0,vi 0,vi 0] 1 (rs42 ([(S_api_Service.mk [100,98] [] [] [] [] [] [] [] [] 0 zx13 0 0 0 0)])) ∧ GoodR (rs42 ([(S_api_Service.mk [100,98] [] [] [] [] [] [] [] [] 0 zx13 0 0 0 0)])))] (AllP.cons (mkObW (weaks_eq (ds:=[.str [100,98],.str [],.val (.slice none 0 0),.val (.slice none 0 0),.val (.slice none 0 0),.val (.slice none 0 0),.val (.slice none 0 0),.val (.slice none 0 0),.val (.slice none 0 0),vi 0,.str [],vi 0,vi 0,vi 0,vi 0,vi 0,vi 0,vi 0]) (es:=[.str [100,98],.str [],ls [],rs38 [],rs38 [],rs39 [],rs40 [],ls [],rs41 [],vi 0,.str [],vi 0,vi 0,vi 0,vi 0,vi 0,vi 0,vi 0]) (by kernel_rfl) (.cons (.refl _) (.cons (.refl _) (.cons (.zero _ _) (.cons (.zero _ _) (.cons (.zero _ _) (.cons (.zero _ _) (.cons (.zero _ _) (.cons (.zero _ _) (.cons (.zero _ _) (.cons (.refl _) (.cons (.refl _) (.cons (.refl _) (.cons (.refl _) (.cons (.refl _) (.cons (.refl _) (.cons (.refl _) (.cons (.refl _) (.cons (.refl _) .nil)))))))))))))))))) (by kernel_rfl)) rfl (by kernel_rfl) (good_E_api_Service _)) AllP.nil) (To.thenN (Wp.seq ?_)))))))))
 obtain ⟨r1,hr1,h⟩:=bind_of h
 obtain ⟨r2,hr2,h⟩:=bind_of h
 obtain ⟨r3,hr3,h⟩:=bind_of h
 obtain ⟨x4,hx4,h⟩:=lett_of h
 refine rr [(1,[5]),(7,[8])] [(1,rs19 r1),(7,rs19 r2),(13,rs19 r3)] [] [0] [] [(0,vb (bif (bif ((List.length r1:Int) == 1) then ((List.length r2:Int) == 1) else false) then ((List.length r3:Int) == 0) else false))] [] [(true = true → CX Tryz.prog 81 [.agg [rs19 ([(S_api_Container.mk 1 (S_api_Spec.mk [] [112] [119,101,98] 0 [] [] [] zx13 0 0) 0 0 0 0)]),.val (.slice none 0 0),.val (.slice none 0 0)],.str [112],.str [119,101,98]] (rs19 r1)),((((List.length r1:Int) == 1) == true) = true → CX Tryz.prog 82 [.agg [rs19 ([(S_api_Container.mk 1 (S_api_Spec.mk [] [112] [119,101,98] 0 [] [] [] zx13 0 0) 0 0 0 0)]),.val (.slice none 0 0),.val (.slice none 0 0)],.agg [.str [112],rs42 ([(S_api_Service.mk [100,98] [] [] [] [] [] [] [] [] 0 zx13 0 0 0 0)]),.val (.slice none 0 0),.val (.slice none 0 0)]] (rs19 r2)),(((bif ((List.length r1:Int) == 1) then ((List.length r2:Int) == 1) else false) == true) = true → CX Tryz.prog 83 [.agg [rs19 ([(S_api_Container.mk 1 (S_api_Spec.mk [] [112] [119,101,98] 0 [] [] [] zx13 0 0) 0 0 0 0)]),.val (.slice none 0 0),.val (.slice none 0 0)],.str [113]] (rs19 r3))] (AllP.cons (fun _=>cx (callsX_args (.cons (.agg (.cons (.refl _) (.cons (.zero _ _) (.cons (.zero _ _) .nil)))) (.cons (.refl _) (.cons (.refl _) .nil))) (ok_view_Service n (S_view_Seen.mk ([(S_api_Container.mk 1 (S_api_Spec.mk [] [112] [119,101,98] 0 [] [] [] zx13 0 0) 0 0 0 0)]) [] []) [112] [119,101,98] _ hr1))) (AllP.cons (fun hg=>cx (callsX_args (.cons (.agg (.cons (.refl _) (.cons (.zero _ _) (.cons (.zero _ _) .nil)))) (.cons (.agg (.cons (.refl _) (.cons (.refl _) (.cons (.zero _ _) (.cons (.zero _ _) .nil))))) .nil)) (ok_view_Orphans n (S_view_Seen.mk ([(S_api_Container.mk 1 (S_api_Spec.mk [] [112] [119,101,98] 0 [] [] [] zx13 0 0) 0 0 0 0)]) [] []) (S_api_Project.mk [112] ([(S_api_Service.mk [100,98] [] [] [] [] [] [] [] [] 0 zx13 0 0 0 0)]) [] []) _ (if_t hg hr2)))) (AllP.cons (fun hg=>cx (callsX_args (.cons (.agg (.cons (.refl _) (.cons (.zero _ _) (.cons (.zero _ _) .nil)))) (.cons (.refl _) .nil)) (ok_view_Mine n (S_view_Seen.mk ([(S_api_Container.mk 1 (S_api_Spec.mk [] [112] [119,101,98] 0 [] [] [] zx13 0 0) 0 0 0 0)]) [] []) [113] _ (if_t hg hr3)))) AllP.nil))) (To.eq (K':=[(0,vb x4)]) (L':=[]) (by cases hx4; rfl) (by cases hx4; rfl) (To.thenN (Wp.ret ?_)))
 cases h
 exact To.done hΓ (by kernel_rfl)
def view_Of__o0 (n:Nat) (h0:S_host_Host):Option (S_view_Seen × S_host_Host) :=
 (host_Host_Boxes__o0 n h0).bind fun r1 =>
 (host_Host_Nets__o0 n r1.2).bind fun r2 =>
 (host_Host_Vols__o0 n r2.2).bind fun r3 =>
 some ((S_view_Seen.mk r1.1 r2.1 r3.1),r3.2)
abbrev ph46 (a b c d:Nat) (x:S_host_Host):List (Option (Nat × List D)):=some (139,[.own a 0,rs25 x.f_plan.f_l,vi x.f_plan.f_more,vi x.f_now])::ps15 b c d x.f_Store
theorem ok_view_Of__o0 (n:Nat) (h0:S_host_Host) (r:S_view_Seen × S_host_Host) (h:view_Of__o0 n h0 = some r):CallsB Tryz.prog 49 [.own 1000000 0] (qh31 1000000 1010060 1010061 1010062 1010063 h0) (.agg (qc33 r.1)) (qh31 1000000 1010060 1010061 1010062 1010063 r.2):=by
 unfold view_Of__o0 at h
 refine bo Tryz.f49 rfl fun F0 w0=>?_
 refine Wp.seq (rg [0,2] [2,1000000,1010060,1010061,1010062,1010063] [(0,.own 1000000 0),(2,.own 2 0)] ((2,102,[.val (.slice none 0 0),.val (.slice none 0 0),.val (.slice none 0 0)])::qh31 1000000 1010060 1010061 1010062 1010063 h0) (To.thenN (Wp.seq ?_)))
 obtain ⟨r1,hr1,h⟩:=bind_of h
 obtain ⟨r2,hr2,h⟩:=bind_of h
 obtain ⟨r3,hr3,h⟩:=bind_of h
 refine rr [] [] [(1,⟨[(1000000,1000000),(1010060,1010060),(1010061,1010061),(1010062,1010062),(1010063,1010063)],[(1000000,1000000),(1010060,1010060),(1010061,1010061),(1010062,1010062),(1010063,1010063)],[.own 1000000 0],(qh31 1000000 1010060 1010061 1010062 1010063 h0),rs19 r1.1,(qh31 1000000 1010060 1010061 1010062 1010063 r1.2)⟩),(3,⟨[(1000000,1000000),(1010060,1010060),(1010061,1010061),(1010062,1010062),(1010063,1010063)],[(1000000,1000000),(1010060,1010060),(1010061,1010061),(1010062,1010062),(1010063,1010063)],[.own 1000000 0],(qh31 1000000 1010060 1010061 1010062 1010063 r1.2),rs22 r2.1,(qh31 1000000 1010060 1010061 1010062 1010063 r2.2)⟩),(5,⟨[(1000000,1000000),(1010060,1010060),(1010061,1010061),(1010062,1010062),(1010063,1010063)],[(1000000,1000000),(1010060,1010060),(1010061,1010061),(1010062,1010062),(1010063,1010063)],[.own 1000000 0],(qh31 1000000 1010060 1010061 1010062 1010063 r2.2),rs22 r3.1,(qh31 1000000 1010060 1010061 1010062 1010063 r3.2)⟩)] [2] [2,1000000,1010060,1010061,1010062,1010063] [(2,.own 2 0)] ((2,102,[rs19 r1.1,rs22 r2.1,rs22 r3.1])::qh31 1000000 1010060 1010061 1010062 1010063 r3.2) [CbOb (CallsB Tryz.prog) 31 [.own 1000000 0] (ph46 1010060 1010061 1010062 1010063 h0) ⟨[(1000000,1000000),(1010060,1010060),(1010061,1010061),(1010062,1010062),(1010063,1010063)],[(1000000,1000000),(1010060,1010060),(1010061,1010061),(1010062,1010062),(1010063,1010063)],[.own 1000000 0],(qh31 1000000 1010060 1010061 1010062 1010063 h0),rs19 r1.1,(qh31 1000000 1010060 1010061 1010062 1010063 r1.2)⟩,CbOb (CallsB Tryz.prog) 32 [.own 1000000 0] (ph46 1010060 1010061 1010062 1010063 r1.2) ⟨[(1000000,1000000),(1010060,1010060),(1010061,1010061),(1010062,1010062),(1010063,1010063)],[(1000000,1000000),(1010060,1010060),(1010061,1010061),(1010062,1010062),(1010063,1010063)],[.own 1000000 0],(qh31 1000000 1010060 1010061 1010062 1010063 r1.2),rs22 r2.1,(qh31 1000000 1010060 1010061 1010062 1010063 r2.2)⟩,CbOb (CallsB Tryz.prog) 33 [.own 1000000 0] (ph46 1010060 1010061 1010062 1010063 r2.2) ⟨[(1000000,1000000),(1010060,1010060),(1010061,1010061),(1010062,1010062),(1010063,1010063)],[(1000000,1000000),(1010060,1010060),(1010061,1010061),(1010062,1010062),(1010063,1010063)],[.own 1000000 0],(qh31 1000000 1010060 1010061 1010062 1010063 r2.2),rs22 r3.1,(qh31 1000000 1010060 1010061 1010062 1010063 r3.2)⟩] (AllP.cons (⟨(ok_host_Host_Boxes__o0 n h0 _ hr1),by kernel_rfl,by kernel_rfl⟩) (AllP.cons (⟨(ok_host_Host_Nets__o0 n r1.2 _ hr2),by kernel_rfl,by kernel_rfl⟩) (AllP.cons (⟨(ok_host_Host_Vols__o0 n r2.2 _ hr3),by kernel_rfl,by kernel_rfl⟩) AllP.nil))) ?_
 refine To.thenN (Wp.ret ?_)
 cases h
 exact To.doneB hΓ [1000000,1010060,1010061,1010062,1010063] (by kernel_rfl) (by kernel_rfl)
def host_Host_Boxes__v:(List (S_api_Container)) :=
 []
theorem ok_host_Host_Boxes__v (r:(List (S_api_Container))) (h:host_Host_Boxes__v = r):CallsX Tryz.prog 31 [.val (.pointer none)] (rs19 r):=by
 unfold host_Host_Boxes__v at h
 refine xo Tryz.f31 rfl fun F0 w0 _=>?_
 refine Wp.seq (rg [0] [] [(0,.val (.pointer none))] [] (To.thenN (Wp.seq (Wp.seq (rg [0,4] [] [(0,.val (.pointer none)),(4,vb true)] [] (To.thenN (Wp.cond (b:=true) (by kernel_rfl) (fun _=>?_) (fun hb=>by cases hb))))))))
 refine Wp.seq (rg [2] [] [(2,.val (.slice none 0 0))] [] (To.thenN (Wp.ret (To.thenR (To.weak (K':=[(2,rs19 [])]) (L':=[]) (.cons (.zero _ _) .nil) .nil ?_)))))
 cases h
 exact To.done hΓ (by kernel_rfl)
def host_Host_Nets__v:(List (S_api_Kept)) :=
 []
theorem ok_host_Host_Nets__v (r:(List (S_api_Kept))) (h:host_Host_Nets__v = r):CallsX Tryz.prog 32 [.val (.pointer none)] (rs22 r):=by
 unfold host_Host_Nets__v at h
 refine xo Tryz.f32 rfl fun F0 w0 _=>?_
 refine Wp.seq (rg [0] [] [(0,.val (.pointer none))] [] (To.thenN (Wp.seq (Wp.seq (rg [0,4] [] [(0,.val (.pointer none)),(4,vb true)] [] (To.thenN (Wp.cond (b:=true) (by kernel_rfl) (fun _=>?_) (fun hb=>by cases hb))))))))
 refine Wp.seq (rg [2] [] [(2,.val (.slice none 0 0))] [] (To.thenN (Wp.ret (To.thenR (To.weak (K':=[(2,rs22 [])]) (L':=[]) (.cons (.zero _ _) .nil) .nil ?_)))))
 cases h
 exact To.done hΓ (by kernel_rfl)
def host_Host_Vols__v:(List (S_api_Kept)) :=
 []
theorem ok_host_Host_Vols__v (r:(List (S_api_Kept))) (h:host_Host_Vols__v = r):CallsX Tryz.prog 33 [.val (.pointer none)] (rs22 r):=by
 unfold host_Host_Vols__v at h
 refine xo Tryz.f33 rfl fun F0 w0 _=>?_
 refine Wp.seq (rg [0] [] [(0,.val (.pointer none))] [] (To.thenN (Wp.seq (Wp.seq (rg [0,4] [] [(0,.val (.pointer none)),(4,vb true)] [] (To.thenN (Wp.cond (b:=true) (by kernel_rfl) (fun _=>?_) (fun hb=>by cases hb))))))))
 refine Wp.seq (rg [2] [] [(2,.val (.slice none 0 0))] [] (To.thenN (Wp.ret (To.thenR (To.weak (K':=[(2,rs22 [])]) (L':=[]) (.cons (.zero _ _) .nil) .nil ?_)))))
 cases h
 exact To.done hΓ (by kernel_rfl)
def view_Of__v:S_view_Seen :=
 (S_view_Seen.mk (host_Host_Boxes__v) (host_Host_Nets__v) (host_Host_Vols__v))
theorem ok_view_Of__v (r:S_view_Seen) (h:view_Of__v = r):CallsX Tryz.prog 49 [.val (.pointer none)] (.agg (qc33 r)):=by
 unfold view_Of__v at h
 refine xo Tryz.f49 rfl fun F0 w0 _=>?_
 refine Wp.seq (rg [0,2] [2] [(0,.val (.pointer none)),(2,.own 2 0)] [(2,102,[.val (.slice none 0 0),.val (.slice none 0 0),.val (.slice none 0 0)])] (To.thenN (Wp.seq (rr [] [(1,rs19 (host_Host_Boxes__v)),(3,rs22 (host_Host_Nets__v)),(5,rs22 (host_Host_Vols__v))] [] [2] [2] [(2,.own 2 0)] [(2,102,[rs19 (host_Host_Boxes__v),rs22 (host_Host_Nets__v),rs22 (host_Host_Vols__v)])] [_,_,_] (AllP.cons (c1 (ok_host_Host_Boxes__v  _ rfl)) (AllP.cons (c1 (ok_host_Host_Nets__v  _ rfl)) (AllP.cons (c1 (ok_host_Host_Vols__v  _ rfl)) AllP.nil))) (To.thenN (Wp.ret ?_))))))
 cases h
 exact To.done hΓ (by kernel_rfl)
def law36_ViewHosts_l1 (n:Nat) (v0:List (S_api_Call)):Nat → Int → S_host_Host → Option (S_host_Host)
 | 0,_,_=>none
 | k + 1,v4,b11=>if (decide (v4 < (List.length v0:Int))) = true then (if (decide (0 ≤ v4 ∧ v4 < (List.length v0:Int))) = true then ((host_Host_Call__o0 n ((v0)[Int.toNat v4]?.getD (S_api_Call.mk 0 [] 0 Z_api_Spec)) b11).bind fun r4 =>
 law36_ViewHosts_l1 n v0 k (IntKind.wrap .i64 (v4 + 1)) r4.2.2) else none)
 else some b11
theorem ok_law36_ViewHosts_l1 (n:Nat) (v0:List (S_api_Call)) {F0:Fz} {w0:Pt Tryz.prog} {Q:Exit → Act → World → Prop} (k:Nat):∀ (v4:Int) (b11:S_host_Host) (o:S_host_Host),law36_ViewHosts_l1 n v0 k v4 b11 = some o → To 67 F0 w0 [(3,.own 11 0)] (qh31 11 700442 700443 700444 700445 o) (.exit 0) Q → WL Tryz.prog 67 F0 w0 [(0,rs1 v0),(3,.own 11 0),(4,vi v4)] (qh31 11 700442 700443 700444 700445 b11) (cI (cI (cB (cA (cB (cB (cB (cF Tryz.f8)))))))) Q:=by
 induction k with
 | zero=>intro v4 b11 o h; cases h
 | succ k ih =>
  intro v4 b11 o h hQ
  rw [law36_ViewHosts_l1] at h
  refine WL.round (Wp.seq (Wp.seq (rg [0,3,4,15] [11,700442,700443,700444,700445] [(0,rs1 v0),(3,.own 11 0),(4,vi v4),(15,vb (decide (v4 < (List.length v0:Int))))] (qh31 11 700442 700443 700444 700445 b11) (To.thenN (cn h (fun h=>?_) (fun h=>?_))))))
  ·refine Wp.skip (To.thenN (Wp.seq (Wp.block ?_)))
   obtain ⟨hc5,h⟩:=chk_of h
   obtain ⟨r4,hr4,h⟩:=bind_of h
   refine rr [] [] [(5,⟨[(1000000,11),(1010060,700442),(1010061,700443),(1010062,700444),(1010063,700445)],[(1000000,11),(1010060,700442),(1010061,700443),(1010062,700444),(1010063,700445)],[.own 1000000 0,.agg [vi ((ex1 v0 v4).f_Kind),.str ((ex1 v0 v4).f_Name),vi ((ex1 v0 v4).f_Id),.str ((ex1 v0 v4).f_Spec.f_Name),.str ((ex1 v0 v4).f_Spec.f_Project),.str ((ex1 v0 v4).f_Spec.f_Service),vi ((ex1 v0 v4).f_Spec.f_Number),.str ((ex1 v0 v4).f_Spec.f_Hash),ls ((ex1 v0 v4).f_Spec.f_Nets),ls ((ex1 v0 v4).f_Spec.f_Vols),.str ((ex1 v0 v4).f_Spec.f_Health.f_Test),vi ((ex1 v0 v4).f_Spec.f_Health.f_Every),vi ((ex1 v0 v4).f_Spec.f_Health.f_Start),vi ((ex1 v0 v4).f_Spec.f_Health.f_Retries),vi ((ex1 v0 v4).f_Spec.f_Restart),vi ((ex1 v0 v4).f_Spec.f_Tries)]],(qh31 1000000 1010060 1010061 1010062 1010063 b11),.tup [vi r4.1,vi r4.2.1],(qh31 1000000 1010060 1010061 1010062 1010063 r4.2.2)⟩)] [0,3,4] [11,700442,700443,700444,700445] [(0,rs1 v0),(3,.own 11 0),(4,vi v4)] (qh31 11 700442 700443 700444 700445 r4.2.2) [_,CbOb (CallsB Tryz.prog) 34 [.own 11 0,.agg [vi ((ex1 v0 v4).f_Kind),.str ((ex1 v0 v4).f_Name),vi ((ex1 v0 v4).f_Id),.str ((ex1 v0 v4).f_Spec.f_Name),.str ((ex1 v0 v4).f_Spec.f_Project),.str ((ex1 v0 v4).f_Spec.f_Service),vi ((ex1 v0 v4).f_Spec.f_Number),.str ((ex1 v0 v4).f_Spec.f_Hash),ls ((ex1 v0 v4).f_Spec.f_Nets),ls ((ex1 v0 v4).f_Spec.f_Vols),.str ((ex1 v0 v4).f_Spec.f_Health.f_Test),vi ((ex1 v0 v4).f_Spec.f_Health.f_Every),vi ((ex1 v0 v4).f_Spec.f_Health.f_Start),vi ((ex1 v0 v4).f_Spec.f_Health.f_Retries),vi ((ex1 v0 v4).f_Spec.f_Restart),vi ((ex1 v0 v4).f_Spec.f_Tries)]] (ph46 700442 700443 700444 700445 b11) ⟨[(1000000,11),(1010060,700442),(1010061,700443),(1010062,700444),(1010063,700445)],[(1000000,11),(1010060,700442),(1010061,700443),(1010062,700444),(1010063,700445)],[.own 1000000 0,.agg [vi ((ex1 v0 v4).f_Kind),.str ((ex1 v0 v4).f_Name),vi ((ex1 v0 v4).f_Id),.str ((ex1 v0 v4).f_Spec.f_Name),.str ((ex1 v0 v4).f_Spec.f_Project),.str ((ex1 v0 v4).f_Spec.f_Service),vi ((ex1 v0 v4).f_Spec.f_Number),.str ((ex1 v0 v4).f_Spec.f_Hash),ls ((ex1 v0 v4).f_Spec.f_Nets),ls ((ex1 v0 v4).f_Spec.f_Vols),.str ((ex1 v0 v4).f_Spec.f_Health.f_Test),vi ((ex1 v0 v4).f_Spec.f_Health.f_Every),vi ((ex1 v0 v4).f_Spec.f_Health.f_Start),vi ((ex1 v0 v4).f_Spec.f_Health.f_Retries),vi ((ex1 v0 v4).f_Spec.f_Restart),vi ((ex1 v0 v4).f_Spec.f_Tries)]],(qh31 1000000 1010060 1010061 1010062 1010063 b11),.tup [vi r4.1,vi r4.2.1],(qh31 1000000 1010060 1010061 1010062 1010063 r4.2.2)⟩] (AllP.cons hc5 (AllP.cons (⟨(ok_host_Host_Call__o0 n (ex1 v0 v4) b11 _ hr4),by kernel_rfl,by kernel_rfl⟩) AllP.nil)) ?_
   refine To.blockN (To.thenN (rg [0,3,4] [11,700442,700443,700444,700445] [(0,rs1 v0),(3,.own 11 0),(4,vi (IntKind.wrap .i64 (v4 + 1)))] (qh31 11 700442 700443 700444 700445 r4.2.2) (kt [0,3,4] [11,700442,700443,700444,700445] [(0,rs1 v0),(3,.own 11 0),(4,vi (IntKind.wrap .i64 (v4 + 1)))] (qh31 11 700442 700443 700444 700445 r4.2.2) (To.again ?_))))
   exact ih (IntKind.wrap .i64 (v4 + 1)) r4.2.2 _ h hQ
  ·refine Wp.exit (To.thenX (To.thenX (kt [3] [11,700442,700443,700444,700445] [(3,.own 11 0)] (qh31 11 700442 700443 700444 700445 b11) ?_)))
   cases h
   exact hQ
def law36_ViewHosts (n:Nat) (a0:List (S_api_Call)):Option (Bool) :=
 (law33_Few n a0 40).bind fun r1 =>
 if (!r1) = true then ((law36_awake n).bind fun r2 =>
 some r2)
 else ((host_New_o n []).bind fun r3 =>
 (law36_ViewHosts_l1 n a0 n 0 r3).bind fun o4 =>
 (view_Of__o0 n o4).bind fun r5 =>
 lett (view_Of__v) fun r6 =>
 (host_Host_Boxes__o0 n r5.2).bind fun r7 =>
 (law33_SameBoxes n r5.1.f_Boxes r7.1).bind fun r8 =>
 ((if (r8 == true) = true then host_Host_Nets__o0 n r7.2 else some ([],r7.2))).bind fun r9 =>
 ((if ((bif r8 then ((List.length r5.1.f_Nets:Int) == (List.length r9.1:Int)) else false) == true) = true then host_Host_Vols__o0 n r9.2 else some ([],r9.2))).bind fun r10 =>
 ((if ((bif (bif (bif r8 then ((List.length r5.1.f_Nets:Int) == (List.length r9.1:Int)) else false) then ((List.length r5.1.f_Vols:Int) == (List.length r10.1:Int)) else false) then ((IntKind.wrap .i64 ((IntKind.wrap .i64 ((List.length r6.f_Boxes:Int) + (List.length r6.f_Nets:Int))) + (List.length r6.f_Vols:Int))) == 0) else false) == true) = true then law36_awake n else some false)).bind fun r11 =>
 lett ((bif (bif (bif (bif r8 then ((List.length r5.1.f_Nets:Int) == (List.length r9.1:Int)) else false) then ((List.length r5.1.f_Vols:Int) == (List.length r10.1:Int)) else false) then ((IntKind.wrap .i64 ((IntKind.wrap .i64 ((List.length r6.f_Boxes:Int) + (List.length r6.f_Nets:Int))) + (List.length r6.f_Vols:Int))) == 0) else false) then r11 else false):Bool) fun x12 =>
 some x12)
theorem ok_law36_ViewHosts (n:Nat) (a0:List (S_api_Call)) (r:Bool) (h:law36_ViewHosts n a0 = some r):CallsX Tryz.prog 8 [rs1 a0] (vb r):=by
 unfold law36_ViewHosts at h
 refine xo Tryz.f8 rfl fun F0 w0 _=>?_
 refine Wp.seq (rg [0] [] [(0,rs1 a0)] [] (To.thenN (Wp.seq (Wp.seq ?_))))
 obtain ⟨r1,hr1,h⟩:=bind_of h
 refine rc [] 1 [0,9] [] [(0,rs1 a0),(9,vb (!r1))] [] (ok_law33_Few n a0 40 _ hr1) (To.thenN (cn h (fun h=>?_) (fun h=>?_)))
 ·refine Wp.seq ?_
  obtain ⟨r2,hr2,h⟩:=bind_of h
  refine rc [] 0 [2] [] [(2,vb r2)] [] (ok_law36_awake n  _ hr2) (To.thenN (Wp.ret (To.thenR ?_)))
  cases h
  exact To.done hΓ (by kernel_rfl)
 ·refine Wp.skip (To.thenN (Wp.seq ?_))
  obtain ⟨r3,hr3,h⟩:=bind_of h
  refine rb [] 0 ⟨[],[(1,11),(2,700442),(3,700443),(4,700444),(5,700445)],[.val (.slice none 0 0)],[],.own 1 0,(qh31 1 2 3 4 5 r3)⟩ [0,3] [11,700442,700443,700444,700445] [(0,rs1 a0),(3,.own 11 0)] (qh31 11 700442 700443 700444 700445 r3) (callsB_args (.cons (.zero _ _) .nil) .nil (ok_host_New_o n [] _ hr3)) (To.thenN (Wp.seq (Wp.seq (rg [0,3,4] [11,700442,700443,700444,700445] [(0,rs1 a0),(3,.own 11 0),(4,vi 0)] (qh31 11 700442 700443 700444 700445 r3) (To.thenN (Wp.block ?_))))))
  obtain ⟨o4,ho4,h⟩:=bind_of h
  refine kw [0,3,4] [11,700442,700443,700444,700445] [(0,rs1 a0),(3,.own 11 0),(4,vi 0)] (qh31 11 700442 700443 700444 700445 r3) (Wp.loopL (ok_law36_ViewHosts_l1 n a0 n 0 r3 o4 ho4 (To.blockX (To.thenN (Wp.seq ?_)))))
  obtain ⟨r5,hr5,h⟩:=bind_of h
  refine rb [] 1 ⟨[(1000000,11),(1010060,700442),(1010061,700443),(1010062,700444),(1010063,700445)],[(1000000,11),(1010060,700442),(1010061,700443),(1010062,700444),(1010063,700445)],[.own 1000000 0],(qh31 1000000 1010060 1010061 1010062 1010063 o4),.agg (qc33 r5.1),(qh31 1000000 1010060 1010061 1010062 1010063 r5.2)⟩ [3,5] [5,11,700442,700443,700444,700445] [(3,.own 11 0),(5,.own 5 0)] ((5,102,qc33 r5.1)::qh31 11 700442 700443 700444 700445 r5.2) ((ok_view_Of__o0 n o4 _ hr5)) (To.thenN (Wp.seq ?_))
  obtain ⟨r6,hr6,h⟩:=lett_of h
  refine rc [] 0 [3,5,6] [5,6,11,700442,700443,700444,700445] [(3,.own 11 0),(5,.own 5 0),(6,.own 6 0)] ((5,102,qc33 r5.1)::(6,102,qc33 r6)::qh31 11 700442 700443 700444 700445 r5.2) (ok_view_Of__v  _ hr6) (To.thenN (Wp.seq ?_))
  obtain ⟨r7,hr7,h⟩:=bind_of h
  obtain ⟨r8,hr8,h⟩:=bind_of h
  obtain ⟨r9,hr9,h⟩:=bind_of h
  obtain ⟨r10,hr10,h⟩:=bind_of h
  obtain ⟨r11,hr11,h⟩:=bind_of h
  obtain ⟨x12,hx12,h⟩:=lett_of h
  refine Wp.regionO hm hΓ [] [(4,vb r8),(38,vb r11)] [(3,⟨[(1000000,11),(1010060,700442),(1010061,700443),(1010062,700444),(1010063,700445)],[(1000000,11),(1010060,700442),(1010061,700443),(1010062,700444),(1010063,700445)],[.own 1000000 0],(qh31 1000000 1010060 1010061 1010062 1010063 r5.2),rs19 r7.1,(qh31 1000000 1010060 1010061 1010062 1010063 r7.2)⟩),(10,⟨[(1000000,11),(1010060,700442),(1010061,700443),(1010062,700444),(1010063,700445)],[(1000000,11),(1010060,700442),(1010061,700443),(1010062,700444),(1010063,700445)],[.own 1000000 0],(qh31 1000000 1010060 1010061 1010062 1010063 r7.2),rs22 r9.1,(qh31 1000000 1010060 1010061 1010062 1010063 r9.2)⟩),(19,⟨[(1000000,11),(1010060,700442),(1010061,700443),(1010062,700444),(1010063,700445)],[(1000000,11),(1010060,700442),(1010061,700443),(1010062,700444),(1010063,700445)],[.own 1000000 0],(qh31 1000000 1010060 1010061 1010062 1010063 r9.2),rs22 r10.1,(qh31 1000000 1010060 1010061 1010062 1010063 r10.2)⟩)] [2,3,5,6,27,28,29,30,31,32,33,34,35,36,37,38,39,40,41,42,43,44,45,46,47,48,49,50,51,52,53,54,55,56,57,58,59,60,61,62,63,64,65,66] [5,6,11,700442,700443,700444,700445] [2] [] (K':=[(2,vb (bif (bif (bif (bif r8 then ((List.length r5.1.f_Nets:Int) == (List.length r9.1:Int)) else false) then ((List.length r5.1.f_Vols:Int) == (List.length r10.1:Int)) else false) then ((IntKind.wrap .i64 ((IntKind.wrap .i64 ((List.length r6.f_Boxes:Int) + (List.length r6.f_Nets:Int))) + (List.length r6.f_Vols:Int))) == 0) else false) then r11 else false))]) (L':=[]) (ob:=[CbOb (CallsB Tryz.prog) 31 [.own 11 0] (ph46 700442 700443 700444 700445 r5.2) ⟨[(1000000,11),(1010060,700442),(1010061,700443),(1010062,700444),(1010063,700445)],[(1000000,11),(1010060,700442),(1010061,700443),(1010062,700444),(1010063,700445)],[.own 1000000 0],(qh31 1000000 1010060 1010061 1010062 1010063 r5.2),rs19 r7.1,(qh31 1000000 1010060 1010061 1010062 1010063 r7.2)⟩,(true = true → CX Tryz.prog 14 [rs19 r5.1.f_Boxes,rs19 r7.1] (vb r8)),((r8 == true) = true → CbOb (CallsB Tryz.prog) 32 [.own 11 0] (ph46 700442 700443 700444 700445 r7.2) ⟨[(1000000,11),(1010060,700442),(1010061,700443),(1010062,700444),(1010063,700445)],[(1000000,11),(1010060,700442),(1010061,700443),(1010062,700444),(1010063,700445)],[.own 1000000 0],(qh31 1000000 1010060 1010061 1010062 1010063 r7.2),rs22 r9.1,(qh31 1000000 1010060 1010061 1010062 1010063 r9.2)⟩),((r8 == true) = false → KeepOb (qh31 11 700442 700443 700444 700445 r7.2) ⟨[(1000000,11),(1010060,700442),(1010061,700443),(1010062,700444),(1010063,700445)],[(1000000,11),(1010060,700442),(1010061,700443),(1010062,700444),(1010063,700445)],[.own 1000000 0],(qh31 1000000 1010060 1010061 1010062 1010063 r7.2),rs22 r9.1,(qh31 1000000 1010060 1010061 1010062 1010063 r9.2)⟩),(((bif r8 then ((List.length r5.1.f_Nets:Int) == (List.length r9.1:Int)) else false) == true) = true → CbOb (CallsB Tryz.prog) 33 [.own 11 0] (ph46 700442 700443 700444 700445 r9.2) ⟨[(1000000,11),(1010060,700442),(1010061,700443),(1010062,700444),(1010063,700445)],[(1000000,11),(1010060,700442),(1010061,700443),(1010062,700444),(1010063,700445)],[.own 1000000 0],(qh31 1000000 1010060 1010061 1010062 1010063 r9.2),rs22 r10.1,(qh31 1000000 1010060 1010061 1010062 1010063 r10.2)⟩),(((bif r8 then ((List.length r5.1.f_Nets:Int) == (List.length r9.1:Int)) else false) == true) = false → KeepOb (qh31 11 700442 700443 700444 700445 r9.2) ⟨[(1000000,11),(1010060,700442),(1010061,700443),(1010062,700444),(1010063,700445)],[(1000000,11),(1010060,700442),(1010061,700443),(1010062,700444),(1010063,700445)],[.own 1000000 0],(qh31 1000000 1010060 1010061 1010062 1010063 r9.2),rs22 r10.1,(qh31 1000000 1010060 1010061 1010062 1010063 r10.2)⟩),(((bif (bif (bif r8 then ((List.length r5.1.f_Nets:Int) == (List.length r9.1:Int)) else false) then ((List.length r5.1.f_Vols:Int) == (List.length r10.1:Int)) else false) then ((IntKind.wrap .i64 ((IntKind.wrap .i64 ((List.length r6.f_Boxes:Int) + (List.length r6.f_Nets:Int))) + (List.length r6.f_Vols:Int))) == 0) else false) == true) = true → CX Tryz.prog 48 [] (vb r11))]) (by kernel_rfl) (by kernel_rfl) (AllP.cons (⟨(ok_host_Host_Boxes__o0 n r5.2 _ hr7),by kernel_rfl,by kernel_rfl⟩) (AllP.cons (fun _=>cx (ok_law33_SameBoxes n r5.1.f_Boxes r7.1 _ hr8)) (AllP.cons (fun hg=>⟨(ok_host_Host_Nets__o0 n r7.2 _ (if_t hg hr9)),by kernel_rfl,by kernel_rfl⟩) (AllP.cons (fun hg=>by cases if_f hg hr9; exact keepOb (by kernel_rfl)) (AllP.cons (fun hg=>⟨(ok_host_Host_Vols__o0 n r9.2 _ (if_t hg hr10)),by kernel_rfl,by kernel_rfl⟩) (AllP.cons (fun hg=>by cases if_f hg hr10; exact keepOb (by kernel_rfl)) (AllP.cons (fun hg=>cx (ok_law36_awake n  _ (if_t hg hr11))) AllP.nil))))))) ?_
  refine To.eq (K':=[(2,vb x12)]) (L':=[]) (by cases hx12; rfl) (by cases hx12; rfl) (To.thenN (Wp.ret ?_))
  cases h
  exact To.done hΓ (by kernel_rfl)
theorem opens_i64:Opens Tryz.prog 3 (fun n:Int=>IntKind.min .i64 ≤ n ∧ n ≤ IntKind.max .i64) (fun n=>[.val (.int .i64 n)]):=opens_int (by kernel_rfl)
theorem opens_string:Opens Tryz.prog 9 (fun l:List UInt8=>l.length ≤ maxLen) (fun l=>[.str l]):=opens_str (by kernel_rfl)
def W_Lstring (l:List (List UInt8)):Prop:=l.length ≤ maxLen ∧ ∀ x ∈ l,(List.length x ≤ maxLen)
theorem opens_Lstring:Opens Tryz.prog 34 W_Lstring (fun l=>[.recs (α:=List UInt8) [] E_string l]):=opens_slice (α:=List UInt8) (cells:=E_string) [] (by kernel_rfl) (by kernel_rfl) (of_decide_eq_true (by kernel_rfl)) opens_string
def W_api_Check (x:S_api_Check):Prop:=(List.length x.f_Test ≤ maxLen) ∧ (IntKind.min .i64 ≤ x.f_Every ∧ x.f_Every ≤ IntKind.max .i64) ∧ (IntKind.min .i64 ≤ x.f_Start ∧ x.f_Start ≤ IntKind.max .i64) ∧ (IntKind.min .i64 ≤ x.f_Retries ∧ x.f_Retries ≤ IntKind.max .i64)
theorem opens_api_Check:Opens Tryz.prog 36 W_api_Check (fun x=>[.str x.f_Test,.val (.int .i64 x.f_Every),.val (.int .i64 x.f_Start),.val (.int .i64 x.f_Retries)]):=by
 intro H enc W fuel cs d ps h
 obtain ⟨hl,hf⟩:=field_of Tryz.underlying36 h
 have hl:cs.length = 4:=hl.trans (by kernel_rfl)
 obtain ⟨x0,w0,r0⟩:=hf 0 _ rfl opens_string
 have r0:=repAt (a':=0) (b':=1) r0 (by kernel_rfl) (by kernel_rfl)
 obtain ⟨x1,w1,r1⟩:=hf 1 _ rfl opens_i64
 have r1:=repAt (a':=1) (b':=1) r1 (by kernel_rfl) (by kernel_rfl)
 obtain ⟨x2,w2,r2⟩:=hf 2 _ rfl opens_i64
 have r2:=repAt (a':=2) (b':=1) r2 (by kernel_rfl) (by kernel_rfl)
 obtain ⟨x3,w3,r3⟩:=hf 3 _ rfl opens_i64
 have r3:=repAt (a':=3) (b':=1) r3 (by kernel_rfl) (by kernel_rfl)
 refine ⟨⟨x0,x1,x2,x3⟩,⟨w0,w1,w2,w3⟩,?_⟩
 refine parts_all (l:=[([.str x0],1),([.val (.int .i64 x1)],1),([.val (.int .i64 x2)],1),([.val (.int .i64 x3)],1)]) ⟨r0,r1,r2,r3,Nat.le_of_eq hl⟩ rfl
def W_api_Spec (x:S_api_Spec):Prop:=(List.length x.f_Name ≤ maxLen) ∧ (List.length x.f_Project ≤ maxLen) ∧ (List.length x.f_Service ≤ maxLen) ∧ (IntKind.min .i64 ≤ x.f_Number ∧ x.f_Number ≤ IntKind.max .i64) ∧ (List.length x.f_Hash ≤ maxLen) ∧ (W_Lstring x.f_Nets) ∧ (W_Lstring x.f_Vols) ∧ (W_api_Check x.f_Health) ∧ (IntKind.min .i64 ≤ x.f_Restart ∧ x.f_Restart ≤ IntKind.max .i64) ∧ (IntKind.min .i64 ≤ x.f_Tries ∧ x.f_Tries ≤ IntKind.max .i64)
theorem opens_api_Spec:Opens Tryz.prog 38 W_api_Spec (fun x=>[.str x.f_Name,.str x.f_Project,.str x.f_Service,.val (.int .i64 x.f_Number),.str x.f_Hash,.recs (α:=List UInt8) [] E_string x.f_Nets,.recs (α:=List UInt8) [] E_string x.f_Vols,.str x.f_Health.f_Test,.val (.int .i64 x.f_Health.f_Every),.val (.int .i64 x.f_Health.f_Start),.val (.int .i64 x.f_Health.f_Retries),.val (.int .i64 x.f_Restart),.val (.int .i64 x.f_Tries)]):=by
 intro H enc W fuel cs d ps h
 obtain ⟨hl,hf⟩:=field_of Tryz.underlying38 h
 have hl:cs.length = 13:=hl.trans (by kernel_rfl)
 obtain ⟨x0,w0,r0⟩:=hf 0 _ rfl opens_string
 have r0:=repAt (a':=0) (b':=1) r0 (by kernel_rfl) (by kernel_rfl)
 obtain ⟨x1,w1,r1⟩:=hf 1 _ rfl opens_string
 have r1:=repAt (a':=1) (b':=1) r1 (by kernel_rfl) (by kernel_rfl)
 obtain ⟨x2,w2,r2⟩:=hf 2 _ rfl opens_string
 have r2:=repAt (a':=2) (b':=1) r2 (by kernel_rfl) (by kernel_rfl)
 obtain ⟨x3,w3,r3⟩:=hf 3 _ rfl opens_i64
 have r3:=repAt (a':=3) (b':=1) r3 (by kernel_rfl) (by kernel_rfl)
 obtain ⟨x4,w4,r4⟩:=hf 4 _ rfl opens_string
 have r4:=repAt (a':=4) (b':=1) r4 (by kernel_rfl) (by kernel_rfl)
 obtain ⟨x5,w5,r5⟩:=hf 5 _ rfl opens_Lstring
 have r5:=repAt (a':=5) (b':=1) r5 (by kernel_rfl) (by kernel_rfl)
 obtain ⟨x6,w6,r6⟩:=hf 6 _ rfl opens_Lstring
 have r6:=repAt (a':=6) (b':=1) r6 (by kernel_rfl) (by kernel_rfl)
 obtain ⟨x7,w7,r7⟩:=hf 7 _ rfl opens_api_Check
 have r7:=repAt (a':=7) (b':=4) r7 (by kernel_rfl) (by kernel_rfl)
 obtain ⟨x8,w8,r8⟩:=hf 8 _ rfl opens_i64
 have r8:=repAt (a':=11) (b':=1) r8 (by kernel_rfl) (by kernel_rfl)
 obtain ⟨x9,w9,r9⟩:=hf 9 _ rfl opens_i64
 have r9:=repAt (a':=12) (b':=1) r9 (by kernel_rfl) (by kernel_rfl)
 refine ⟨⟨x0,x1,x2,x3,x4,x5,x6,x7,x8,x9⟩,⟨w0,w1,w2,w3,w4,w5,w6,w7,w8,w9⟩,?_⟩
 refine parts_all (l:=[([.str x0],1),([.str x1],1),([.str x2],1),([.val (.int .i64 x3)],1),([.str x4],1),([.recs (α:=List UInt8) [] E_string x5],1),([.recs (α:=List UInt8) [] E_string x6],1),([.str x7.f_Test,.val (.int .i64 x7.f_Every),.val (.int .i64 x7.f_Start),.val (.int .i64 x7.f_Retries)],4),([.val (.int .i64 x8)],1),([.val (.int .i64 x9)],1)]) ⟨r0,r1,r2,r3,r4,r5,r6,r7,r8,r9,Nat.le_of_eq hl⟩ rfl
def W_api_Call (x:S_api_Call):Prop:=(IntKind.min .i64 ≤ x.f_Kind ∧ x.f_Kind ≤ IntKind.max .i64) ∧ (List.length x.f_Name ≤ maxLen) ∧ (IntKind.min .i64 ≤ x.f_Id ∧ x.f_Id ≤ IntKind.max .i64) ∧ (W_api_Spec x.f_Spec)
theorem opens_api_Call:Opens Tryz.prog 40 W_api_Call (fun x=>[.val (.int .i64 x.f_Kind),.str x.f_Name,.val (.int .i64 x.f_Id),.str x.f_Spec.f_Name,.str x.f_Spec.f_Project,.str x.f_Spec.f_Service,.val (.int .i64 x.f_Spec.f_Number),.str x.f_Spec.f_Hash,.recs (α:=List UInt8) [] E_string x.f_Spec.f_Nets,.recs (α:=List UInt8) [] E_string x.f_Spec.f_Vols,.str x.f_Spec.f_Health.f_Test,.val (.int .i64 x.f_Spec.f_Health.f_Every),.val (.int .i64 x.f_Spec.f_Health.f_Start),.val (.int .i64 x.f_Spec.f_Health.f_Retries),.val (.int .i64 x.f_Spec.f_Restart),.val (.int .i64 x.f_Spec.f_Tries)]):=by
 intro H enc W fuel cs d ps h
 obtain ⟨hl,hf⟩:=field_of Tryz.underlying40 h
 have hl:cs.length = 16:=hl.trans (by kernel_rfl)
 obtain ⟨x0,w0,r0⟩:=hf 0 _ rfl opens_i64
 have r0:=repAt (a':=0) (b':=1) r0 (by kernel_rfl) (by kernel_rfl)
 obtain ⟨x1,w1,r1⟩:=hf 1 _ rfl opens_string
 have r1:=repAt (a':=1) (b':=1) r1 (by kernel_rfl) (by kernel_rfl)
 obtain ⟨x2,w2,r2⟩:=hf 2 _ rfl opens_i64
 have r2:=repAt (a':=2) (b':=1) r2 (by kernel_rfl) (by kernel_rfl)
 obtain ⟨x3,w3,r3⟩:=hf 3 _ rfl opens_api_Spec
 have r3:=repAt (a':=3) (b':=13) r3 (by kernel_rfl) (by kernel_rfl)
 refine ⟨⟨x0,x1,x2,x3⟩,⟨w0,w1,w2,w3⟩,?_⟩
 refine parts_all (l:=[([.val (.int .i64 x0)],1),([.str x1],1),([.val (.int .i64 x2)],1),([.str x3.f_Name,.str x3.f_Project,.str x3.f_Service,.val (.int .i64 x3.f_Number),.str x3.f_Hash,.recs (α:=List UInt8) [] E_string x3.f_Nets,.recs (α:=List UInt8) [] E_string x3.f_Vols,.str x3.f_Health.f_Test,.val (.int .i64 x3.f_Health.f_Every),.val (.int .i64 x3.f_Health.f_Start),.val (.int .i64 x3.f_Health.f_Retries),.val (.int .i64 x3.f_Restart),.val (.int .i64 x3.f_Tries)],13)]) ⟨r0,r1,r2,r3,Nat.le_of_eq hl⟩ rfl
def W_Lapi_Call (l:List (S_api_Call)):Prop:=l.length ≤ maxLen ∧ ∀ x ∈ l,(W_api_Call x)
theorem opens_Lapi_Call:Opens Tryz.prog 22 W_Lapi_Call (fun l=>[.recs (α:=S_api_Call) (S_api_Call.mk 0 [] 0 Z_api_Spec) E_api_Call l]):=opens_slice (α:=S_api_Call) (cells:=E_api_Call) (S_api_Call.mk 0 [] 0 Z_api_Spec) (by kernel_rfl) (by kernel_rfl) (of_decide_eq_true (by kernel_rfl)) opens_api_Call
end Go.Proofs.YtaecmkldkljioaaGreat.M
