import Derived.Test.YtaecmkldkljioaaGreatQM35c
set_option linter.all false
namespace Go.Proofs.YtaecmkldkljioaaGreat.M
open Go.RowKit Go.Proofs.YtaecmkldkljioaaGreat.RX
set_option maxRecDepth 100000
abbrev ex27 (x0:Int):Nat × D:=(4,vi (IntKind.wrap .i64 (x0 + 1)))
theorem ok_ref33_Seen_l1 (n:Nat) (b1:S_ref33_Store) {F0:Fz} {w0:Pt Tryz.prog} {Q:Exit → Act → World → Prop} (k:Nat):∀ (v3:List (S_api_Container)) (v4:Int) (o:(List (S_api_Container))),ref33_Seen_l1 n b1 k v3 v4 = some o → To 23 F0 w0 [(3,.row 1003)] [(1003,120,[rc27 o])] (.exit 0) Q → WL Tryz.prog 23 F0 w0 [(1,.own 1 0),(3,.row 1003),(4,vi v4)] [(1,30,qc20 b1),(1003,120,[rc27 v3])] (cI (cI (cB (cA (cB (cB (cF Tryz.f16))))))) Q:=by
 induction k with
 | zero=>intro v3 v4 o h; cases h
 | succ k ih =>
  intro v3 v4 o h hQ
  rw [ref33_Seen_l1] at h
  refine WL.round (Wp.seq (Wp.seq (rg [1,3,4,10] [1,1003] [(1,.own 1 0),(3,.row 1003),(4,vi v4),(10,vb (decide (v4 < (ex18 b1))))] [(1,30,qc20 b1),(1003,120,[rc27 v3])] (To.thenN (cn h (fun h=>?_) (fun h=>?_))))))
  ·refine Wp.skip (To.thenN (Wp.seq (Wp.block ?_)))
   obtain ⟨hc2,h⟩:=chk_of h
   obtain ⟨r1,hr1,h⟩:=lett_of h
   obtain ⟨hc3,h⟩:=chk_of h
   refine rr [] [(6,.agg (qc26 r1)),(7,rs29 [r1]),(8,rs29 (v3 ++ ([r1]:List (S_api_Container))))] [] [1,3,4] [1,21] [(1,.own 1 0),(3,.row 21),(4,vi v4)] [(1,30,qc20 b1),(21,120,[rc27 (v3 ++ ([r1]:List (S_api_Container)))])] [_,_,(MkOb 18 (qc26 r1) 1 (rs29 [r1]) ∧ GoodR (rs29 [r1])),_,(AppOb Z_api_Container E_api_Container v3 (List.flatMap E_api_Container ([r1]:List (S_api_Container))) (List.length ([r1]:List (S_api_Container))) (rs29 (v3 ++ ([r1]:List (S_api_Container)))) ∧ GoodR (rs29 (v3 ++ ([r1]:List (S_api_Container)))))] (AllP.cons hc2 (AllP.cons (c1 (ok_ref32_Seen (ex17 b1 v4) _ hr1)) (AllP.cons (mkOb (by kernel_rfl) rfl (by kernel_rfl) (good_E_api_Container _)) (AllP.cons hc3 (AllP.cons (appOb rfl rfl (good_E_api_Container _)) AllP.nil))))) (To.blockN (To.thenN (rg [1,3,4] [1,21] [(1,.own 1 0),(3,.row 21),(ex27 v4)] [(1,30,qc20 b1),(21,120,[rc27 (v3 ++ ([r1]:List (S_api_Container)))])] (nt [1,3,4] [1,21] [(21,1003)] [1,3,4] [1,1003] [(1,.own 1 0),(3,.row 1003),(ex27 v4)] [(1,30,qc20 b1),(1003,120,[rc27 (v3 ++ ([r1]:List (S_api_Container)))])] (To.again ?_)))))
   exact ih (v3 ++ ([r1]:List (S_api_Container))) (IntKind.wrap .i64 (v4 + 1)) _ h hQ
  ·refine Wp.exit (To.thenX (To.thenX (kt [3] [1003] [(3,.row 1003)] [(1003,120,[rc27 v3])] ?_)))
   cases h
   exact hQ
def ref33_Seen (n:Nat) (a0:S_ref33_Store):Option ((List (S_api_Container))) :=
 (ref33_Seen_l1 n a0 n ([]:List (S_api_Container)) 0).bind fun o1 =>
 some o1
theorem ok_ref33_Seen (n:Nat) (a0:S_ref33_Store) (r:(List (S_api_Container))) (h:ref33_Seen n a0 = some r):CallsX Tryz.prog 16 [.agg (qc20 a0)] (rs29 r):=by
 unfold ref33_Seen at h
 refine xo Tryz.f16 rfl fun F0 w0 _=>?_
 refine Wp.seq (rg [1] [1] [(1,.own 1 0)] [(1,30,qc20 a0)] (To.thenN (Wp.seq (rr [] [(0,rs29 [])] [] [1,3] [1,5] [(1,.own 1 0),(3,.row 5)] [(1,30,qc20 a0),(5,120,[rc27 []])] [(MkOb 18 [] 0 (rs29 []) ∧ GoodR (rs29 []))] (AllP.cons (mkOb (by kernel_rfl) rfl (by kernel_rfl) (good_E_api_Container _)) AllP.nil) (To.thenN (Wp.seq (Wp.seq (rg [1,3,4] [1,5] [(1,.own 1 0),(3,.row 5),(4,vi 0)] [(1,30,qc20 a0),(5,120,[rc27 []])] (To.thenN (Wp.block ?_))))))))))
 obtain ⟨o1,ho1,h⟩:=bind_of h
 refine nw [1,3,4] [1,5] [(5,1003)] [1,3,4] [1,1003] [(1,.own 1 0),(3,.row 1003),(4,vi 0)] [(1,30,qc20 a0),(1003,120,[rc27 []])] (Wp.loopL (ok_ref33_Seen_l1 n a0 n ([]:List (S_api_Container)) 0 o1 ho1 (To.blockX (To.thenN (Wp.seq (rg [2] [1003] [(2,.row 1003)] [(1003,120,[rc27 o1])] (To.thenN (Wp.ret (To.pre (St.settle (ks:=[1003]) (kk:=[2]) (kl:=[1003]) (K':=[(2,.row 1003)]) (L':=[(1003,120,[rc30 o1])]) (by kernel_rfl)) (To.pre (St.sealK [2] (K':=[(2,rs29 o1)]) (by kernel_rfl)) ?_))))))))))
 cases h
 exact To.done hΓ (by kernel_rfl)
def ref02_Same_l1 (n:Nat) (v0:List (List UInt8)) (v1:List (List UInt8)):Nat → Int → Option (Sum (Unit) (Bool))
 | 0,_=>none
 | k + 1,v5=>if (decide (v5 < (List.length v0:Int))) = true then (if (decide (0 ≤ v5 ∧ v5 < (List.length v0:Int))) = true then (if (decide (0 ≤ v5 ∧ v5 < (List.length v1:Int))) = true then (if (!(((v0)[Int.toNat v5]?.getD []) == ((v1)[Int.toNat v5]?.getD []))) = true then (some (.inr false))
 else (ref02_Same_l1 n v0 v1 k (IntKind.wrap .i64 (v5 + 1)))) else none) else none)
 else (some (.inl ()))
theorem ok_ref02_Same_l1 (n:Nat) (v0:List (List UInt8)) (v1:List (List UInt8)) {F0:Fz} {w0:Pt Tryz.prog} {Q:Exit → Act → World → Prop} (k:Nat):∀ (v5:Int) (o:Sum (Unit) (Bool)),ref02_Same_l1 n v0 v1 k v5 = some o → (Sum.elim (fun s=>To 26 F0 w0 [] [] (.exit 0) Q) (fun s=>To 26 F0 w0 [(4,vb s)] [] .ret Q)) o → WL Tryz.prog 26 F0 w0 [(0,ls v0),(1,ls v1),(5,vi v5)] [] (cI (cI (cB (cA (cB (cB (cF Tryz.f94))))))) Q:=by
 induction k with
 | zero=>intro v5 o h; cases h
 | succ k ih =>
  intro v5 o h hQ
  rw [ref02_Same_l1] at h
  refine WL.round (Wp.seq (Wp.seq (rg [0,1,5,14] [] [(0,ls v0),(1,ls v1),(5,vi v5),(14,vb (ex16 v5 v0))] [] (To.thenN (cn h (fun h=>?_) (fun h=>?_))))))
  ·refine Wp.skip (To.thenN (Wp.seq (Wp.block (Wp.seq ?_))))
   obtain ⟨hc1,h⟩:=chk_of h
   obtain ⟨hc2,h⟩:=chk_of h
   refine Wp.regionD hm hΓ [] [0,1,5,25] [] (K':=[(0,ls v0),(1,ls v1),(5,vi v5),(25,vb (!(((v0)[Int.toNat v5]?.getD []) == ((v1)[Int.toNat v5]?.getD []))))]) (L':=[]) (ob:=[(decide (ex5 v5 v0)) = true,(decide (ex5 v5 v1)) = true]) (by kernel_rfl) (AllP.cons hc1 (AllP.cons hc2 AllP.nil)) (To.thenN (cn h (fun h=>?_) (fun h=>?_)))
   ·refine Wp.seq (rg [4] [] [(4,vb false)] [] (To.thenN (Wp.ret (To.blockR (To.thenR (To.thenR ?_))))))
    cases h
    exact hQ
   ·refine Wp.skip (To.blockN (To.thenN (rg [0,1,5] [] [(0,ls v0),(1,ls v1),(ex2 v5)] [] (kt [0,1,5] [] [(0,ls v0),(1,ls v1),(ex2 v5)] [] (To.again ?_)))))
    exact ih (IntKind.wrap .i64 (v5 + 1)) _ h hQ
  ·refine Wp.exit (To.thenX (To.thenX (kt [] [] [] [] ?_)))
   cases h
   exact hQ
def ref02_Same (n:Nat) (a0:List (List UInt8)) (a1:List (List UInt8)):Option (Bool) :=
 if ((List.length a0:Int) != (List.length a1:Int)) = true then some false
 else ((ref02_Same_l1 n a0 a1 n 0).bind fun o1 =>
 (Sum.elim (fun o1=>some true) (fun o1=>some o1)) o1)
theorem ok_ref02_Same (n:Nat) (a0:List (List UInt8)) (a1:List (List UInt8)) (r:Bool) (h:ref02_Same n a0 a1 = some r):CallsX Tryz.prog 94 [ls a0,ls a1] (vb r):=by
 unfold ref02_Same at h
 refine xo Tryz.f94 rfl fun F0 w0 _=>?_
 refine Wp.seq (rg [0,1] [] [(0,ls a0),(1,ls a1)] [] (To.thenN (Wp.seq (Wp.seq (rg [0,1,10] [] [(0,ls a0),(1,ls a1),(10,vb ((List.length a0:Int) != (List.length a1:Int)))] [] (To.thenN (cn h (fun h=>?_) (fun h=>?_))))))))
 ·refine Wp.seq (rg [4] [] [(4,vb false)] [] (To.thenN (Wp.ret (To.thenR ?_))))
  cases h
  exact To.done hΓ (by kernel_rfl)
 ·refine Wp.skip (To.thenN (Wp.seq (Wp.seq (rg [0,1,5] [] [(0,ls a0),(1,ls a1),(5,vi 0)] [] (To.thenN (Wp.block ?_))))))
  obtain ⟨o1,ho1,h⟩:=bind_of h
  refine kw [0,1,5] [] [(0,ls a0),(1,ls a1),(5,vi 0)] [] (Wp.loopL (ok_ref02_Same_l1 n a0 a1 n 0 o1 ho1 ?_))
  rcases o1 with o1 | o1
  ·replace h:=sum_l h
   refine To.blockX (To.thenN (Wp.seq (rg [4] [] [(4,vb true)] [] (To.thenN (Wp.ret ?_)))))
   cases h
   exact To.done hΓ (by kernel_rfl)
  ·replace h:=sum_r h
   refine To.blockR (To.thenR ?_)
   cases h
   exact To.done hΓ (by kernel_rfl)
def ref27_Alike (n:Nat) (a0:S_api_Spec) (a1:S_api_Spec):Option (Bool) :=
 (ref02_Same n a0.f_Nets a1.f_Nets).bind fun r1 =>
 ((if ((!r1) == false) = true then ref02_Same n a0.f_Vols a1.f_Vols else some false)).bind fun r2 =>
 if (bif (!r1) then true else (!r2)) = true then some false
 else (lett ((bif (bif (bif (bif (bif (bif (bif (a0.f_Name == a1.f_Name) then (a0.f_Project == a1.f_Project) else false) then (a0.f_Service == a1.f_Service) else false) then (a0.f_Number == a1.f_Number) else false) then (a0.f_Hash == a1.f_Hash) else false) then ((a0.f_Health.f_Test == a1.f_Health.f_Test) && ((a0.f_Health.f_Every == a1.f_Health.f_Every) && ((a0.f_Health.f_Start == a1.f_Health.f_Start) && (a0.f_Health.f_Retries == a1.f_Health.f_Retries)))) else false) then (a0.f_Restart == a1.f_Restart) else false) then (a0.f_Tries == a1.f_Tries) else false):Bool) fun x3 =>
 some x3)
theorem ok_ref27_Alike (n:Nat) (a0:S_api_Spec) (a1:S_api_Spec) (r:Bool) (h:ref27_Alike n a0 a1 = some r):CallsX Tryz.prog 60 [.agg (qc7 a0),.agg (qc7 a1)] (vb r):=by
 unfold ref27_Alike at h
 refine xo Tryz.f60 rfl fun F0 w0 _=>?_
 refine Wp.seq (rg [2,3] [2,3] [(2,.own 2 0),(3,.own 3 0)] [(2,38,(E_api_Spec a0)),(3,38,(E_api_Spec a1))] (To.thenN (Wp.seq (Wp.seq ?_))))
 obtain ⟨r1,hr1,h⟩:=bind_of h
 obtain ⟨r2,hr2,h⟩:=bind_of h
 refine rr [] [(4,vb r1),(11,vb r2)] [] [2,3,18] [2,3] [(2,.own 2 0),(3,.own 3 0),(18,vb (bif (!r1) then true else (!r2)))] [(2,38,(E_api_Spec a0)),(3,38,(E_api_Spec a1))] [_,(((!r1) == false) = true → CX Tryz.prog 94 [ls a0.f_Vols,ls a1.f_Vols] (vb r2))] (AllP.cons (c1 (ok_ref02_Same n a0.f_Nets a1.f_Nets _ hr1)) (AllP.cons (fun hg=>cx (ok_ref02_Same n a0.f_Vols a1.f_Vols _ (if_t hg hr2))) AllP.nil)) (To.thenN (cn h (fun h=>?_) (fun h=>?_)))
 ·refine Wp.seq (rg [4] [] [(4,vb false)] [] (To.thenN (Wp.ret (To.thenR ?_))))
  cases h
  exact To.done hΓ (by kernel_rfl)
 ·refine Wp.skip (To.thenN (Wp.seq ?_))
  obtain ⟨x3,hx3,h⟩:=lett_of h
  refine rg [4] [] [(4,vb (bif (bif (bif (bif (bif (bif (bif (a0.f_Name == a1.f_Name) then (a0.f_Project == a1.f_Project) else false) then (a0.f_Service == a1.f_Service) else false) then (a0.f_Number == a1.f_Number) else false) then (a0.f_Hash == a1.f_Hash) else false) then ((a0.f_Health.f_Test == a1.f_Health.f_Test) && ((a0.f_Health.f_Every == a1.f_Health.f_Every) && ((a0.f_Health.f_Start == a1.f_Health.f_Start) && (a0.f_Health.f_Retries == a1.f_Health.f_Retries)))) else false) then (a0.f_Restart == a1.f_Restart) else false) then (a0.f_Tries == a1.f_Tries) else false))] [] (To.eq (K':=[(4,vb x3)]) (L':=[]) (by cases hx3; rfl) (by cases hx3; rfl) (To.thenN (Wp.ret ?_)))
  cases h
  exact To.done hΓ (by kernel_rfl)
def law33_SameBoxes_l1 (n:Nat) (v0:List (S_api_Container)) (v1:List (S_api_Container)):Nat → Int → Option (Sum (Unit) (Bool))
 | 0,_=>none
 | k + 1,v5=>if (decide (v5 < (List.length v0:Int))) = true then (if (decide (0 ≤ v5 ∧ v5 < (List.length v0:Int))) = true then (if (decide (0 ≤ v5 ∧ v5 < (List.length v1:Int))) = true then (((if ((bif (bif (bif (bif ((((v0)[Int.toNat v5]?.getD Z_api_Container).f_Id) != (((v1)[Int.toNat v5]?.getD Z_api_Container).f_Id)) then true else ((((v0)[Int.toNat v5]?.getD Z_api_Container).f_State) != (((v1)[Int.toNat v5]?.getD Z_api_Container).f_State))) then true else ((((v0)[Int.toNat v5]?.getD Z_api_Container).f_Code) != (((v1)[Int.toNat v5]?.getD Z_api_Container).f_Code))) then true else ((((v0)[Int.toNat v5]?.getD Z_api_Container).f_Health) != (((v1)[Int.toNat v5]?.getD Z_api_Container).f_Health))) then true else ((((v0)[Int.toNat v5]?.getD Z_api_Container).f_Runs) != (((v1)[Int.toNat v5]?.getD Z_api_Container).f_Runs))) == false) = true then ref27_Alike n (((v0)[Int.toNat v5]?.getD Z_api_Container).f_Spec) (((v1)[Int.toNat v5]?.getD Z_api_Container).f_Spec) else some false)).bind fun r1 =>
 lett ((bif (bif (bif (bif (bif ((((v0)[Int.toNat v5]?.getD Z_api_Container).f_Id) != (((v1)[Int.toNat v5]?.getD Z_api_Container).f_Id)) then true else ((((v0)[Int.toNat v5]?.getD Z_api_Container).f_State) != (((v1)[Int.toNat v5]?.getD Z_api_Container).f_State))) then true else ((((v0)[Int.toNat v5]?.getD Z_api_Container).f_Code) != (((v1)[Int.toNat v5]?.getD Z_api_Container).f_Code))) then true else ((((v0)[Int.toNat v5]?.getD Z_api_Container).f_Health) != (((v1)[Int.toNat v5]?.getD Z_api_Container).f_Health))) then true else ((((v0)[Int.toNat v5]?.getD Z_api_Container).f_Runs) != (((v1)[Int.toNat v5]?.getD Z_api_Container).f_Runs))) then true else (!r1)):Bool) fun x2 =>
 if x2 = true then (some (.inr false))
 else (law33_SameBoxes_l1 n v0 v1 k (IntKind.wrap .i64 (v5 + 1)))) else none) else none)
 else (some (.inl ()))
abbrev ex28 (x0:List (S_api_Container)) (x1:Int):=((x0)[Int.toNat x1]?.getD Z_api_Container)
theorem ok_law33_SameBoxes_l1 (n:Nat) (v0:List (S_api_Container)) (v1:List (S_api_Container)) {F0:Fz} {w0:Pt Tryz.prog} {Q:Exit → Act → World → Prop} (k:Nat):∀ (v5:Int) (o:Sum (Unit) (Bool)),law33_SameBoxes_l1 n v0 v1 k v5 = some o → (Sum.elim (fun s=>To 68 F0 w0 [] [] (.exit 0) Q) (fun s=>To 68 F0 w0 [(4,vb s)] [] .ret Q)) o → WL Tryz.prog 68 F0 w0 [(0,rs29 v0),(1,rs29 v1),(5,vi v5)] [] (cI (cI (cB (cA (cB (cB (cF Tryz.f14))))))) Q:=by
 induction k with
 | zero=>intro v5 o h; cases h
 | succ k ih =>
  intro v5 o h hQ
  rw [law33_SameBoxes_l1] at h
  refine WL.round (Wp.seq (Wp.seq (rg [0,1,5,16] [] [(0,rs29 v0),(1,rs29 v1),(5,vi v5),(16,vb (decide (v5 < (List.length v0:Int))))] [] (To.thenN (cn h (fun h=>?_) (fun h=>?_))))))
  ·refine Wp.skip (To.thenN (Wp.seq (Wp.block (Wp.seq ?_))))
   obtain ⟨hc3,h⟩:=chk_of h
   obtain ⟨hc4,h⟩:=chk_of h
   refine Wp.regionD hm hΓ [] [0,1,5,6,7] [6,7] (K':=[(0,rs29 v0),(1,rs29 v1),(5,vi v5),(6,.own 6 0),(7,.own 7 0)]) (L':=[(6,120,(E_api_Container (ex28 v0 v5))),(7,120,(E_api_Container (ex28 v1 v5)))]) (ob:=[(decide (0 ≤ v5 ∧ v5 < (List.length v0:Int))) = true,(decide (0 ≤ v5 ∧ v5 < (List.length v1:Int))) = true]) (by kernel_rfl) (AllP.cons hc3 (AllP.cons hc4 AllP.nil)) (To.thenN (Wp.seq ?_))
   obtain ⟨r1,hr1,h⟩:=bind_of h
   obtain ⟨x2,hx2,h⟩:=lett_of h
   refine rr [] [(38,vb r1)] [] [0,1,5,67] [] [(0,rs29 v0),(1,rs29 v1),(5,vi v5),(67,vb (bif (bif (bif (bif (bif (((ex28 v0 v5).f_Id) != ((ex28 v1 v5).f_Id)) then true else (((ex28 v0 v5).f_State) != ((ex28 v1 v5).f_State))) then true else (((ex28 v0 v5).f_Code) != ((ex28 v1 v5).f_Code))) then true else (((ex28 v0 v5).f_Health) != ((ex28 v1 v5).f_Health))) then true else (((ex28 v0 v5).f_Runs) != ((ex28 v1 v5).f_Runs))) then true else (!r1)))] [] [(((bif (bif (bif (bif (((ex28 v0 v5).f_Id) != ((ex28 v1 v5).f_Id)) then true else (((ex28 v0 v5).f_State) != ((ex28 v1 v5).f_State))) then true else (((ex28 v0 v5).f_Code) != ((ex28 v1 v5).f_Code))) then true else (((ex28 v0 v5).f_Health) != ((ex28 v1 v5).f_Health))) then true else (((ex28 v0 v5).f_Runs) != ((ex28 v1 v5).f_Runs))) == false) = true → CX Tryz.prog 60 [.agg [.str ((ex28 v0 v5).f_Spec.f_Name),.str ((ex28 v0 v5).f_Spec.f_Project),.str ((ex28 v0 v5).f_Spec.f_Service),vi ((ex28 v0 v5).f_Spec.f_Number),.str ((ex28 v0 v5).f_Spec.f_Hash),ls ((ex28 v0 v5).f_Spec.f_Nets),ls ((ex28 v0 v5).f_Spec.f_Vols),.str ((ex28 v0 v5).f_Spec.f_Health.f_Test),vi ((ex28 v0 v5).f_Spec.f_Health.f_Every),vi ((ex28 v0 v5).f_Spec.f_Health.f_Start),vi ((ex28 v0 v5).f_Spec.f_Health.f_Retries),vi ((ex28 v0 v5).f_Spec.f_Restart),vi ((ex28 v0 v5).f_Spec.f_Tries)],.agg [.str ((ex28 v1 v5).f_Spec.f_Name),.str ((ex28 v1 v5).f_Spec.f_Project),.str ((ex28 v1 v5).f_Spec.f_Service),vi ((ex28 v1 v5).f_Spec.f_Number),.str ((ex28 v1 v5).f_Spec.f_Hash),ls ((ex28 v1 v5).f_Spec.f_Nets),ls ((ex28 v1 v5).f_Spec.f_Vols),.str ((ex28 v1 v5).f_Spec.f_Health.f_Test),vi ((ex28 v1 v5).f_Spec.f_Health.f_Every),vi ((ex28 v1 v5).f_Spec.f_Health.f_Start),vi ((ex28 v1 v5).f_Spec.f_Health.f_Retries),vi ((ex28 v1 v5).f_Spec.f_Restart),vi ((ex28 v1 v5).f_Spec.f_Tries)]] (vb r1))] (AllP.cons (fun hg=>cx (ok_ref27_Alike n ((ex28 v0 v5).f_Spec) ((ex28 v1 v5).f_Spec) _ (if_t hg hr1))) AllP.nil) (To.eq (K':=[(0,rs29 v0),(1,rs29 v1),(5,vi v5),(67,vb x2)]) (L':=[]) (by cases hx2; rfl) (by cases hx2; rfl) (To.thenN (cn h (fun h=>?_) (fun h=>?_))))
   ·refine Wp.seq (rg [4] [] [(4,vb false)] [] (To.thenN (Wp.ret (To.blockR (To.thenR (To.thenR ?_))))))
    cases h
    exact hQ
   ·refine Wp.skip (To.blockN (To.thenN (rg [0,1,5] [] [(0,rs29 v0),(1,rs29 v1),(ex2 v5)] [] (kt [0,1,5] [] [(0,rs29 v0),(1,rs29 v1),(ex2 v5)] [] (To.again ?_)))))
    exact ih (IntKind.wrap .i64 (v5 + 1)) _ h hQ
  ·refine Wp.exit (To.thenX (To.thenX (kt [] [] [] [] ?_)))
   cases h
   exact hQ
def law33_SameBoxes (n:Nat) (a0:List (S_api_Container)) (a1:List (S_api_Container)):Option (Bool) :=
 if ((List.length a0:Int) != (List.length a1:Int)) = true then some false
 else ((law33_SameBoxes_l1 n a0 a1 n 0).bind fun o1 =>
 (Sum.elim (fun o1=>some true) (fun o1=>some o1)) o1)
theorem ok_law33_SameBoxes (n:Nat) (a0:List (S_api_Container)) (a1:List (S_api_Container)) (r:Bool) (h:law33_SameBoxes n a0 a1 = some r):CallsX Tryz.prog 14 [rs29 a0,rs29 a1] (vb r):=by
 unfold law33_SameBoxes at h
 refine xo Tryz.f14 rfl fun F0 w0 _=>?_
 refine Wp.seq (rg [0,1] [] [(0,rs29 a0),(1,rs29 a1)] [] (To.thenN (Wp.seq (Wp.seq (rg [0,1,12] [] [(0,rs29 a0),(1,rs29 a1),(12,vb ((List.length a0:Int) != (List.length a1:Int)))] [] (To.thenN (cn h (fun h=>?_) (fun h=>?_))))))))
 ·refine Wp.seq (rg [4] [] [(4,vb false)] [] (To.thenN (Wp.ret (To.thenR ?_))))
  cases h
  exact To.done hΓ (by kernel_rfl)
 ·refine Wp.skip (To.thenN (Wp.seq (Wp.seq (rg [0,1,5] [] [(0,rs29 a0),(1,rs29 a1),(5,vi 0)] [] (To.thenN (Wp.block ?_))))))
  obtain ⟨o1,ho1,h⟩:=bind_of h
  refine kw [0,1,5] [] [(0,rs29 a0),(1,rs29 a1),(5,vi 0)] [] (Wp.loopL (ok_law33_SameBoxes_l1 n a0 a1 n 0 o1 ho1 ?_))
  rcases o1 with o1 | o1
  ·replace h:=sum_l h
   refine To.blockX (To.thenN (Wp.seq (rg [4] [] [(4,vb true)] [] (To.thenN (Wp.ret ?_)))))
   cases h
   exact To.done hΓ (by kernel_rfl)
  ·replace h:=sum_r h
   refine To.blockR (To.thenR ?_)
   cases h
   exact To.done hΓ (by kernel_rfl)
def store_shelf_list__m0_l1 (n:Nat) (v8:List (List UInt8)) (v9:Int) (b1000000:List (MK × S_api_Kept)):Nat → (List (S_api_Kept)) → Int → Option ((List (S_api_Kept)))
 | 0,_,_=>none
 | k + 1,v3,v10=>if (decide (v10 < v9)) = true then (if (decide (0 ≤ v10 ∧ v10 < (List.length v8:Int))) = true then (if (decide ((List.length v3 + List.length ([(S_api_Kept.mk (((mlook b1000000 (.inl ((v8)[Int.toNat v10]?.getD []))).getD (S_api_Kept.mk [] [])).f_Name) (((mlook b1000000 (.inl ((v8)[Int.toNat v10]?.getD []))).getD (S_api_Kept.mk [] [])).f_Project))]:List (S_api_Kept))) * (32 + 1) ≤ limit)) = true then (lett ((v3 ++ ([(S_api_Kept.mk (((mlook b1000000 (.inl ((v8)[Int.toNat v10]?.getD []))).getD (S_api_Kept.mk [] [])).f_Name) (((mlook b1000000 (.inl ((v8)[Int.toNat v10]?.getD []))).getD (S_api_Kept.mk [] [])).f_Project))]:List (S_api_Kept))):List (S_api_Kept)) fun x2 =>
 store_shelf_list__m0_l1 n v8 v9 b1000000 k x2 (IntKind.wrap .i64 (v10 + 1))) else none) else none)
 else some v3
abbrev ex29 (x0:List (MK × S_api_Kept)) (x1:List (List UInt8)) (x2:Int):=(S_api_Kept.mk (((mlook x0 (.inl ((x1)[Int.toNat x2]?.getD []))).getD zx2).f_Name) (((mlook x0 (.inl ((x1)[Int.toNat x2]?.getD []))).getD zx2).f_Project))
abbrev ex70 (x0:List (MK × S_api_Kept)) (x1:List (List UInt8)) (x2:Int):=((mlook x0 (.inl ((x1)[Int.toNat x2]?.getD []))).getD zx2)
theorem ok_store_shelf_list__m0_l1 (n:Nat) (v8:List (List UInt8)) (v9:Int) (b1000000:List (MK × S_api_Kept)) {F0:Fz} {w0:Pt Tryz.prog} {Q:Exit → Act → World → Prop} (k:Nat):∀ (v3:List (S_api_Kept)) (v10:Int) (o:(List (S_api_Kept))),store_shelf_list__m0_l1 n v8 v9 b1000000 k v3 v10 = some o → To 22 F0 w0 [(3,.row 1003)] [(1003,134,[rc17 o]),(1000000,107,[mc4 b1000000])] (.exit 0) Q → WL Tryz.prog 22 F0 w0 [(0,.mp 1000000),(3,.row 1003),(8,ls v8),(9,vi v9),(10,vi v10)] [(1003,134,[rc17 v3]),(1000000,107,[mc4 b1000000])] (cI (cI (cB (cA (cB (cB (cF Tryz.f66))))))) Q:=by
 induction k with
 | zero=>intro v3 v10 o h; cases h
 | succ k ih =>
  intro v3 v10 o h hQ
  rw [store_shelf_list__m0_l1] at h
  refine WL.round (Wp.seq (rg [0,3,8,9,10,11] [1003,1000000] [(0,.mp 1000000),(3,.row 1003),(8,ls v8),(9,vi v9),(10,vi v10),(11,vb (decide (v10 < v9)))] [(1003,134,[rc17 v3]),(1000000,107,[mc4 b1000000])] (To.thenN (Wp.seq (cn h (fun h=>?_) (fun h=>?_))))))
  ·refine Wp.skip (To.thenN (Wp.seq (Wp.block (Wp.seq ?_))))
   obtain ⟨hc4,h⟩:=chk_of h
   refine r0 [0,3,5,8,9,10] [1003,1000000] [(0,.mp 1000000),(3,.row 1003),(5,.str ((v8)[Int.toNat v10]?.getD [])),(8,ls v8),(9,vi v9),(10,vi v10)] [(1003,134,[rc17 v3]),(1000000,107,[mc4 b1000000])] (AllP.cons hc4 AllP.nil) (To.thenN ?_)
   obtain ⟨hc3,h⟩:=chk_of h
   obtain ⟨x2,hx2,h⟩:=lett_of h
   refine rr [] [(3,.agg [.str ((ex70 b1000000 v8 v10).f_Name),.str ((ex70 b1000000 v8 v10).f_Project)]),(4,rs16 ([(ex29 b1000000 v8 v10)])),(5,rs16 (v3 ++ ([(ex29 b1000000 v8 v10)]:List (S_api_Kept))))] [] [0,3,8,9,10] [19,1000000] [(0,.mp 1000000),(3,.row 19),(8,ls v8),(9,vi v9),(10,vi v10)] [(19,134,[rc17 (v3 ++ ([(ex29 b1000000 v8 v10)]:List (S_api_Kept)))]),(1000000,107,[mc4 b1000000])] [(true = true → LookOb true E_api_Kept b1000000 (.inl ((v8)[Int.toNat v10]?.getD [])) [.str [],.str []] (.agg [.str ((ex70 b1000000 v8 v10).f_Name),.str ((ex70 b1000000 v8 v10).f_Project)])),(MkOb 2 [.str ((ex70 b1000000 v8 v10).f_Name),.str ((ex70 b1000000 v8 v10).f_Project)] 1 (rs16 ([(ex29 b1000000 v8 v10)])) ∧ GoodR (rs16 ([(ex29 b1000000 v8 v10)]))),_,(AppOb zx2 E_api_Kept v3 (List.flatMap E_api_Kept ([(ex29 b1000000 v8 v10)]:List (S_api_Kept))) (List.length ([(ex29 b1000000 v8 v10)]:List (S_api_Kept))) (rs16 (v3 ++ ([(ex29 b1000000 v8 v10)]:List (S_api_Kept)))) ∧ GoodR (rs16 (v3 ++ ([(ex29 b1000000 v8 v10)]:List (S_api_Kept)))))] (AllP.cons (fun _=>⟨zx2,Weaks.of_eq (by kernel_rfl),by kernel_rfl⟩) (AllP.cons (mkOb (by kernel_rfl) rfl (by kernel_rfl) (good_E_api_Kept _)) (AllP.cons hc3 (AllP.cons (appOb rfl rfl (good_E_api_Kept _)) AllP.nil)))) ?_
   refine To.eq (K':=[(0,.mp 1000000),(3,.row 19),(8,ls v8),(9,vi v9),(10,vi v10)]) (L':=[(19,134,[rc17 x2]),(1000000,107,[mc4 b1000000])]) (by cases hx2; rfl) (by cases hx2; rfl) (To.blockN (To.thenN (rg [0,3,8,9,10] [19,1000000] [(0,.mp 1000000),(3,.row 19),(8,ls v8),(9,vi v9),(10,vi (IntKind.wrap .i64 (v10 + 1)))] [(19,134,[rc17 x2]),(1000000,107,[mc4 b1000000])] (nt [0,3,8,9,10] [19,1000000] [(19,1003)] [0,3,8,9,10] [1003,1000000] [(0,.mp 1000000),(3,.row 1003),(8,ls v8),(9,vi v9),(10,vi (IntKind.wrap .i64 (v10 + 1)))] [(1003,134,[rc17 x2]),(1000000,107,[mc4 b1000000])] (To.again ?_)))))
   exact ih x2 (IntKind.wrap .i64 (v10 + 1)) _ h hQ
  ·refine Wp.exit (To.thenX (To.thenX (kt [3] [1003,1000000] [(3,.row 1003)] [(1003,134,[rc17 v3]),(1000000,107,[mc4 b1000000])] ?_)))
   cases h
   exact hQ
def store_shelf_list__m0 (n:Nat) (h0:List (MK × S_api_Kept)):Option ((List (S_api_Kept)) × (List (MK × S_api_Kept))) :=
 if (keysOkS h0) = true then ((store_shelf_list__m0_l1 n (keysS h0) (List.length (keysS h0):Int) h0 n ([]:List (S_api_Kept)) 0).bind fun o2 =>
 some (o2,h0)) else none
theorem ok_store_shelf_list__m0 (n:Nat) (h0:List (MK × S_api_Kept)) (r:(List (S_api_Kept)) × (List (MK × S_api_Kept))) (h:store_shelf_list__m0 n h0 = some r):CallsB Tryz.prog 66 [.mp 1000000] [(1000000,107,[mc4 h0])] (rs16 r.1) [(1000000,107,[mc4 r.2])]:=by
 unfold store_shelf_list__m0 at h
 refine bo Tryz.f66 rfl fun F0 w0=>?_
 refine Wp.seq (rg [0] [1000000] [(0,.mp 1000000)] [(1000000,107,[mc4 h0])] (To.thenN (Wp.seq (rg [0,3] [1000000] [(0,.mp 1000000),(3,.val (.slice none 0 0))] [(1000000,107,[mc4 h0])] (To.thenN (Wp.seq (Wp.seq ?_)))))))
 obtain ⟨u1,h⟩:=chk_of h
 refine rr [] [] [(1,⟨[(1000000,1000000)],[(1,7),(1000000,1000000)],[.mp 1000000],[(1000000,107,[mc4 h0])],.fn 128 [.own 1 0],[(1000000,107,[mc4 h0]),(1,107,[.mp 1000000])]⟩),(2,⟨[(1000000,1000000),(1000001,7)],[(1000000,1000000),(1000001,7)],[.fn 128 [.own 1000001 0]],[(1000000,107,[mc4 h0]),(1000001,107,[.mp 1000000])],ls (keysS h0),[(1000000,107,[mc4 h0]),(1000001,107,[.mp 1000000])]⟩)] [0,3,8,9,10] [1000000] [(0,.mp 1000000),(3,.val (.slice none 0 0)),(8,ls (keysS h0)),(9,vi (List.length (keysS h0):Int)),(10,vi 0)] [(1000000,107,[mc4 h0])] [CbOb (CallsB Tryz.prog) 99 [.mp 1000000] [some (107,[mc4 h0])] ⟨[(1000000,1000000)],[(1,7),(1000000,1000000)],[.mp 1000000],[(1000000,107,[mc4 h0])],.fn 128 [.own 1 0],[(1000000,107,[mc4 h0]),(1,107,[.mp 1000000])]⟩,CbOb (CallsB Tryz.prog) 98 [.fn 128 [.own 7 0]] [some (107,[mc4 h0]),some (107,[.mp 1000000])] ⟨[(1000000,1000000),(1000001,7)],[(1000000,1000000),(1000001,7)],[.fn 128 [.own 1000001 0]],[(1000000,107,[mc4 h0]),(1000001,107,[.mp 1000000])],ls (keysS h0),[(1000000,107,[mc4 h0]),(1000001,107,[.mp 1000000])]⟩] (AllP.cons (⟨Sh.keys99,by kernel_rfl,by kernel_rfl⟩) (AllP.cons (⟨Sh.sortedKeys98_128 u1,by kernel_rfl,by kernel_rfl⟩) AllP.nil)) ?_
 refine To.thenN (Wp.block ?_)
 obtain ⟨o2,ho2,h⟩:=bind_of h
 refine kw [0,3,8,9,10] [1000000] [(0,.mp 1000000),(3,.val (.slice none 0 0)),(8,ls (keysS h0)),(9,vi (List.length (keysS h0):Int)),(10,vi 0)] [(1000000,107,[mc4 h0])] (Wp.pre (St.vacant (t:=3) (k:=1003) (e:=134) (K':=[(0,.mp 1000000),(3,.row 1003),(8,ls (keysS h0)),(9,vi (List.length (keysS h0):Int)),(10,vi 0)]) (good_E_api_Kept _) (by decide) (by kernel_rfl) (by kernel_rfl)) (kw [0,3,8,9,10] [1003,1000000] [(0,.mp 1000000),(3,.row 1003),(8,ls (keysS h0)),(9,vi (List.length (keysS h0):Int)),(10,vi 0)] [(1003,134,[rc17 []]),(1000000,107,[mc4 h0])] (Wp.loopL (ok_store_shelf_list__m0_l1 n (keysS h0) (List.length (keysS h0):Int) h0 n ([]:List (S_api_Kept)) 0 o2 ho2 (To.blockX (To.thenN (Wp.seq (rg [2] [1003,1000000] [(2,.row 1003)] [(1003,134,[rc17 o2]),(1000000,107,[mc4 h0])] (To.thenN (Wp.ret ?_))))))))))
 refine To.pre (St.settle (ks:=[1003]) (kk:=[2]) (kl:=[1003,1000000]) (K':=[(2,.row 1003)]) (L':=[(1003,134,[rc18 o2]),(1000000,107,[mc4 h0])]) (by kernel_rfl)) (To.pre (St.sealK [2] (K':=[(2,rs16 o2)]) (by kernel_rfl)) ?_)
 cases h
 exact To.doneB hΓ [1000000] (by kernel_rfl) (by kernel_rfl)
def store_Store_Nets__o0 (n:Nat) (h0:S_store_Store):Option ((List (S_api_Kept)) × S_store_Store) :=
 (store_shelf_list__m0 n h0.f_nets).bind fun r1 =>
 some (r1.1,(S_store_Store.mk h0.f_boxes r1.2 h0.f_vols h0.f_last))
theorem ok_store_Store_Nets__o0 (n:Nat) (h0:S_store_Store) (r:(List (S_api_Kept)) × S_store_Store) (h:store_Store_Nets__o0 n h0 = some r):CallsB Tryz.prog 18 [.own 1000000 0] (qf5 1000000 1010060 1010061 1010062 h0) (rs16 r.1) (qf5 1000000 1010060 1010061 1010062 r.2):=by
 unfold store_Store_Nets__o0 at h
 refine bo Tryz.f18 rfl fun F0 w0=>?_
 refine Wp.seq (rg [0] [1000000,1010060,1010061,1010062] [(0,.own 1000000 0)] (qf5 1000000 1010060 1010061 1010062 h0) (To.thenN (Wp.seq (Wp.seq (rg [0,4] [1000000,1010060,1010061,1010062] [(0,.own 1000000 0),(4,vb false)] (qf5 1000000 1010060 1010061 1010062 h0) (To.thenN (Wp.cond (b:=false) (by kernel_rfl) (fun hb=>by cases hb) (fun _=>(Wp.skip (To.thenN (Wp.seq ?_)))))))))))
 obtain ⟨r1,hr1,h⟩:=bind_of h
 refine rb [] 4 ⟨[(1000000,1010061)],[(1000000,1010061)],[.mp 1000000],[(1000000,107,[mc4 h0.f_nets])],rs16 r1.1,[(1000000,107,[mc4 r1.2])]⟩ [2] [1000000,1010060,1010061,1010062] [(2,rs16 r1.1)] [(1000000,109,[.mp 1010060,.mp 1010061,.mp 1010062,vi h0.f_last]),(1010060,105,[mc3 h0.f_boxes]),(1010061,107,[mc4 r1.2]),(1010062,107,[mc4 h0.f_vols])] ((ok_store_shelf_list__m0 n h0.f_nets _ hr1)) (To.thenN (Wp.ret ?_))
 cases h
 exact To.doneB hΓ [1000000,1010060,1010061,1010062] (by kernel_rfl) (by kernel_rfl)
def ref02_Sorted_j3 (n:Nat) (v0:List (List UInt8)) (v3:List (List UInt8)) (v4:Int) (v5:Int):Option (Int) :=
 if ((!(((List.length v3:Int) == 0) == false) || decide (0 ≤ v5 ∧ v5 < (List.length v0:Int)))) = true then (if ((!(((List.length v3:Int) == 0) == false) || decide (0 ≤ (IntKind.wrap .i64 ((List.length v3:Int) - 1)) ∧ (IntKind.wrap .i64 ((List.length v3:Int) - 1)) < (List.length v3:Int)))) = true then (if ((!(((decide (v4 < 0)) == false) && ((bif ((List.length v3:Int) == 0) then true else (!(Op.bytesLess ((v0)[Int.toNat v5]?.getD []) ((v3)[Int.toNat (IntKind.wrap .i64 ((List.length v3:Int) - 1))]?.getD []) || ((v0)[Int.toNat v5]?.getD []) == ((v3)[Int.toNat (IntKind.wrap .i64 ((List.length v3:Int) - 1))]?.getD [])))) == true)) || decide (0 ≤ v5 ∧ v5 < (List.length v0:Int)))) = true then (if ((!(((decide (v4 < 0)) == false) && ((bif ((List.length v3:Int) == 0) then true else (!(Op.bytesLess ((v0)[Int.toNat v5]?.getD []) ((v3)[Int.toNat (IntKind.wrap .i64 ((List.length v3:Int) - 1))]?.getD []) || ((v0)[Int.toNat v5]?.getD []) == ((v3)[Int.toNat (IntKind.wrap .i64 ((List.length v3:Int) - 1))]?.getD [])))) == true)) || decide (0 ≤ v4 ∧ v4 < (List.length v0:Int)))) = true then (lett ((bif (bif ((List.length v3:Int) == 0) then true else (!(Op.bytesLess ((v0)[Int.toNat v5]?.getD []) ((v3)[Int.toNat (IntKind.wrap .i64 ((List.length v3:Int) - 1))]?.getD []) || ((v0)[Int.toNat v5]?.getD []) == ((v3)[Int.toNat (IntKind.wrap .i64 ((List.length v3:Int) - 1))]?.getD [])))) then (bif (decide (v4 < 0)) then true else (Op.bytesLess ((v0)[Int.toNat v5]?.getD []) ((v0)[Int.toNat v4]?.getD []))) else false):Bool) fun x1 =>
 if x1 = true then some v5
 else some v4) else none) else none) else none) else none
abbrev ex30 (x0:List (List UInt8)) (x1:List (List UInt8)) (x2:Int):=(bif ((List.length x0:Int) == 0) then true else (!(Op.bytesLess ((x1)[Int.toNat x2]?.getD []) ((x0)[Int.toNat (IntKind.wrap .i64 ((List.length x0:Int) - 1))]?.getD []) || ((x1)[Int.toNat x2]?.getD []) == ((x0)[Int.toNat (IntKind.wrap .i64 ((List.length x0:Int) - 1))]?.getD []))))
theorem ok_ref02_Sorted_j3 (n:Nat) (v0:List (List UInt8)) (v3:List (List UInt8)) (v4:Int) (v5:Int) (o:Int) (h:ref02_Sorted_j3 n v0 v3 v4 v5 = some o) {F0:Fz} {w0:Pt Tryz.prog} {Q:Exit → Act → World → Prop} (hQ:To 55 F0 w0 [(0,ls v0),(3,.row 1003),(4,vi o),(5,vi v5)] [(1003,9,[rc9 v3])] .normal Q):Wp Tryz.prog 55 F0 w0 [(0,ls v0),(3,.row 1003),(4,vi v4),(5,vi v5)] [(1003,9,[rc9 v3])] (cA (cB (cI (cI (cB (cA (cB (cI (cI (cI (cB (cB (cF Tryz.f67))))))))))))) Q:=by
 unfold ref02_Sorted_j3 at h
 refine Wp.block (Wp.seq ?_)
 obtain ⟨hc2,h⟩:=chk_of h
 obtain ⟨hc3,h⟩:=chk_of h
 obtain ⟨hc4,h⟩:=chk_of h
 obtain ⟨hc5,h⟩:=chk_of h
 obtain ⟨x1,hx1,h⟩:=lett_of h
 refine Wp.regionD hm hΓ [] [0,3,4,5,43] [1003] (K':=[(0,ls v0),(3,.row 1003),(4,vi v4),(5,vi v5),(43,vb (bif (ex30 v3 v0 v5) then (bif (decide (v4 < 0)) then true else (Op.bytesLess ((v0)[Int.toNat v5]?.getD []) ((v0)[Int.toNat v4]?.getD []))) else false))]) (L':=[(1003,9,[rc9 v3])]) (ob:=[(!(((List.length v3:Int) == 0) == false) || decide (ex5 v5 v0)) = true,(!(((List.length v3:Int) == 0) == false) || decide (0 ≤ (IntKind.wrap .i64 ((List.length v3:Int) - 1)) ∧ (IntKind.wrap .i64 ((List.length v3:Int) - 1)) < (List.length v3:Int))) = true,(!(((List.length v3:Int) == 0) == false) || decide (0 ≤ (IntKind.wrap .i64 ((List.length v3:Int) - 1)) ∧ (IntKind.wrap .i64 ((List.length v3:Int) - 1)) < (List.length v3:Int))) = true,(!(((decide (v4 < 0)) == false) && ((ex30 v3 v0 v5) == true)) || decide (ex5 v5 v0)) = true,(!(((decide (v4 < 0)) == false) && ((ex30 v3 v0 v5) == true)) || decide (ex5 v4 v0)) = true]) (by kernel_rfl) (AllP.cons hc2 (AllP.cons hc3 (AllP.cons hc3 (AllP.cons hc4 (AllP.cons hc5 AllP.nil))))) (To.eq (K':=[(0,ls v0),(3,.row 1003),(4,vi v4),(5,vi v5),(43,vb x1)]) (L':=[(1003,9,[rc9 v3])]) (by cases hx1; rfl) (by cases hx1; rfl) (To.thenN (cn h (fun h=>?_) (fun h=>?_))))
 ·refine rg [0,3,4,5] [1003] [(0,ls v0),(3,.row 1003),(4,vi v5),(5,vi v5)] [(1003,9,[rc9 v3])] (To.blockN ?_)
  cases h
  exact hQ
 ·refine Wp.skip (To.blockN (kt [0,3,4,5] [1003] [(0,ls v0),(3,.row 1003),(4,vi v4),(5,vi v5)] [(1003,9,[rc9 v3])] ?_))
  cases h
  exact hQ
def ref02_Sorted_l2 (n:Nat) (v0:List (List UInt8)) (v3:List (List UInt8)):Nat → Int → Int → Option (Int)
 | 0,_,_=>none
 | k + 1,v4,v5=>if (decide (v5 < (List.length v0:Int))) = true then ((ref02_Sorted_j3 n v0 v3 v4 v5).bind fun o1 =>
 ref02_Sorted_l2 n v0 v3 k o1 (IntKind.wrap .i64 (v5 + 1)))
 else some v4
theorem ok_ref02_Sorted_l2 (n:Nat) (v0:List (List UInt8)) (v3:List (List UInt8)) {F0:Fz} {w0:Pt Tryz.prog} {Q:Exit → Act → World → Prop} (k:Nat):∀ (v4:Int) (v5:Int) (o:Int),ref02_Sorted_l2 n v0 v3 k v4 v5 = some o → To 55 F0 w0 [(0,ls v0),(3,.row 1003),(4,vi o)] [(1003,9,[rc9 v3])] (.exit 2) Q → WL Tryz.prog 55 F0 w0 [(0,ls v0),(3,.row 1003),(4,vi v4),(5,vi v5)] [(1003,9,[rc9 v3])] (cI (cI (cB (cA (cB (cI (cI (cI (cB (cB (cF Tryz.f67))))))))))) Q:=by
 induction k with
 | zero=>intro v4 v5 o h; cases h
 | succ k ih =>
  intro v4 v5 o h hQ
  rw [ref02_Sorted_l2] at h
  refine WL.round (Wp.seq (Wp.seq (rg [0,3,4,5,10] [1003] [(0,ls v0),(3,.row 1003),(4,vi v4),(5,vi v5),(10,vb (ex16 v5 v0))] [(1003,9,[rc9 v3])] (To.thenN (cn h (fun h=>?_) (fun h=>?_))))))
  ·refine Wp.skip (To.thenN (Wp.seq ?_))
   obtain ⟨o1,ho1,h⟩:=bind_of h
   refine kw [0,3,4,5] [1003] [(0,ls v0),(3,.row 1003),(4,vi v4),(5,vi v5)] [(1003,9,[rc9 v3])] (ok_ref02_Sorted_j3 n v0 v3 v4 v5 o1 ho1 (To.thenN (rg [0,3,4,5] [1003] [(0,ls v0),(3,.row 1003),(4,vi o1),(ex2 v5)] [(1003,9,[rc9 v3])] (kt [0,3,4,5] [1003] [(0,ls v0),(3,.row 1003),(4,vi o1),(ex2 v5)] [(1003,9,[rc9 v3])] (To.again ?_)))))
   exact ih o1 (IntKind.wrap .i64 (v5 + 1)) _ h hQ
  ·refine Wp.exit (To.thenX (To.thenX (kt [0,3,4] [1003] [(0,ls v0),(3,.row 1003),(4,vi v4)] [(1003,9,[rc9 v3])] ?_)))
   cases h
   exact hQ
def ref02_Sorted_l1 (n:Nat) (v0:List (List UInt8)):Nat → (List (List UInt8)) → Option ((List (List UInt8)))
 | 0,_=>none
 | k + 1,v3=>(ref02_Sorted_l2 n v0 v3 n (-1) 0).bind fun o1 =>
 if (decide (o1 < 0)) = true then some v3
 else (if (decide (0 ≤ o1 ∧ o1 < (List.length v0:Int))) = true then (if (decide ((List.length v3 + List.length ([((v0)[Int.toNat o1]?.getD [])]:List (List UInt8))) * (16 + 1) ≤ limit)) = true then (ref02_Sorted_l1 n v0 k (v3 ++ ([((v0)[Int.toNat o1]?.getD [])]:List (List UInt8)))) else none) else none)
theorem ok_ref02_Sorted_l1 (n:Nat) (v0:List (List UInt8)) {F0:Fz} {w0:Pt Tryz.prog} {Q:Exit → Act → World → Prop} (k:Nat):∀ (v3:List (List UInt8)) (o:(List (List UInt8))),ref02_Sorted_l1 n v0 k v3 = some o → To 55 F0 w0 [(2,.row 1002)] [(1002,9,[rc9 o])] .ret Q → WL Tryz.prog 55 F0 w0 [(0,ls v0),(3,.row 1003)] [(1003,9,[rc9 v3])] (cI (cI (cB (cB (cF Tryz.f67))))) Q:=by
 induction k with
 | zero=>intro v3 o h; cases h
 | succ k ih =>
  intro v3 o h hQ
  rw [ref02_Sorted_l1] at h
  refine WL.round (Wp.block (Wp.seq (rg [0,3,4] [1003] [(0,ls v0),(3,.row 1003),(4,vi (-1))] [(1003,9,[rc9 v3])] (To.thenN (Wp.seq (Wp.seq (rg [0,3,4,5] [1003] [(0,ls v0),(3,.row 1003),(4,vi (-1)),(5,vi 0)] [(1003,9,[rc9 v3])] (To.thenN (Wp.block ?_)))))))))
  obtain ⟨o1,ho1,h⟩:=bind_of h
  refine kw [0,3,4,5] [1003] [(0,ls v0),(3,.row 1003),(4,vi (-1)),(5,vi 0)] [(1003,9,[rc9 v3])] (Wp.loopL (ok_ref02_Sorted_l2 n v0 v3 n (-1) 0 o1 ho1 (To.blockX (To.thenN (Wp.seq (Wp.seq (rg [0,3,4,46] [1003] [(0,ls v0),(3,.row 1003),(4,vi o1),(46,vb (decide (o1 < 0)))] [(1003,9,[rc9 v3])] (To.thenN (cn h (fun h=>?_) (fun h=>?_))))))))))
  ·refine Wp.seq (rg [2] [1003] [(2,.row 1003)] [(1003,9,[rc9 v3])] (To.thenN (Wp.ret (To.thenR (To.blockR (To.thenR (nt [2] [1003] [(1003,1002)] [2] [1002] [(2,.row 1002)] [(1002,9,[rc9 v3])] ?_)))))))
   cases h
   exact hQ
  ·refine Wp.skip (To.thenN ?_)
   obtain ⟨hc2,h⟩:=chk_of h
   obtain ⟨hc3,h⟩:=chk_of h
   refine rr [] [(5,ls ([((v0)[Int.toNat o1]?.getD [])])),(6,ls (v3 ++ ([((v0)[Int.toNat o1]?.getD [])]:List (List UInt8))))] [] [0,3] [54] [(0,ls v0),(3,.row 54)] [(54,9,[rc9 (v3 ++ ([((v0)[Int.toNat o1]?.getD [])]:List (List UInt8)))])] [_,(MkOb 1 [.str ((v0)[Int.toNat o1]?.getD [])] 1 (ls ([((v0)[Int.toNat o1]?.getD [])])) ∧ GoodR (ls ([((v0)[Int.toNat o1]?.getD [])]))),_,(AppOb [] E_string v3 (List.flatMap E_string ([((v0)[Int.toNat o1]?.getD [])]:List (List UInt8))) (List.length ([((v0)[Int.toNat o1]?.getD [])]:List (List UInt8))) (ls (v3 ++ ([((v0)[Int.toNat o1]?.getD [])]:List (List UInt8)))) ∧ GoodR (ls (v3 ++ ([((v0)[Int.toNat o1]?.getD [])]:List (List UInt8)))))] (AllP.cons hc2 (AllP.cons (mkOb (by kernel_rfl) rfl (by kernel_rfl) (good_E_string _)) (AllP.cons hc3 (AllP.cons (appOb rfl rfl (good_E_string _)) AllP.nil)))) (To.blockN (nt [0,3] [54] [(54,1003)] [0,3] [1003] [(0,ls v0),(3,.row 1003)] [(1003,9,[rc9 (v3 ++ ([((v0)[Int.toNat o1]?.getD [])]:List (List UInt8)))])] (To.again ?_)))
   exact ih (v3 ++ ([((v0)[Int.toNat o1]?.getD [])]:List (List UInt8))) _ h hQ
def ref02_Sorted (n:Nat) (a0:List (List UInt8)):Option ((List (List UInt8))) :=
 (ref02_Sorted_l1 n a0 n ([]:List (List UInt8))).bind fun o1 =>
 some o1
theorem ok_ref02_Sorted (n:Nat) (a0:List (List UInt8)) (r:(List (List UInt8))) (h:ref02_Sorted n a0 = some r):CallsX Tryz.prog 67 [ls a0] (ls r):=by
 unfold ref02_Sorted at h
 refine xo Tryz.f67 rfl fun F0 w0 _=>?_
 refine Wp.seq (rg [0] [] [(0,ls a0)] [] (To.thenN (Wp.seq (rr [] [(0,ls [])] [] [0,3] [6] [(0,ls a0),(3,.row 6)] [(6,9,[rc9 []])] [(MkOb 1 [] 0 (ls []) ∧ GoodR (ls []))] (AllP.cons (mkOb (by kernel_rfl) rfl (by kernel_rfl) (good_E_string _)) AllP.nil) (To.thenN (Wp.block ?_))))))
 obtain ⟨o1,ho1,h⟩:=bind_of h
 refine nw [0,3] [6] [(6,1003)] [0,3] [1003] [(0,ls a0),(3,.row 1003)] [(1003,9,[rc9 []])] (Wp.loopL (ok_ref02_Sorted_l1 n a0 n ([]:List (List UInt8)) o1 ho1 (To.blockR (kt [2] [1002] [(2,.row 1002)] [(1002,9,[rc9 o1])] (To.pre (St.settle (ks:=[1002]) (kk:=[2]) (kl:=[1002]) (K':=[(2,.row 1002)]) (L':=[(1002,9,[rc10 o1])]) (by kernel_rfl)) (To.pre (St.sealK [2] (K':=[(2,ls o1)]) (by kernel_rfl)) ?_))))))
 cases h
 exact To.done hΓ (by kernel_rfl)
def ref33_Listed_l1 (n:Nat) (v0:List (S_api_Kept)):Nat → (List (List UInt8)) → Int → Option ((List (List UInt8)))
 | 0,_,_=>none
 | k + 1,v3,v4=>if (decide (v4 < (List.length v0:Int))) = true then (if (decide (0 ≤ v4 ∧ v4 < (List.length v0:Int))) = true then (if (decide ((List.length v3 + List.length ([((v0)[Int.toNat v4]?.getD (S_api_Kept.mk [] [])).f_Name]:List (List UInt8))) * (16 + 1) ≤ limit)) = true then (ref33_Listed_l1 n v0 k (v3 ++ ([((v0)[Int.toNat v4]?.getD (S_api_Kept.mk [] [])).f_Name]:List (List UInt8))) (IntKind.wrap .i64 (v4 + 1))) else none) else none)
 else some v3
abbrev ex31 (x0:List (S_api_Kept)) (x1:Int):=([((x0)[Int.toNat x1]?.getD zx2).f_Name]:List (List UInt8))
theorem ok_ref33_Listed_l1 (n:Nat) (v0:List (S_api_Kept)) {F0:Fz} {w0:Pt Tryz.prog} {Q:Exit → Act → World → Prop} (k:Nat):∀ (v3:List (List UInt8)) (v4:Int) (o:(List (List UInt8))),ref33_Listed_l1 n v0 k v3 v4 = some o → To 44 F0 w0 [(0,rs16 v0),(3,.row 1003)] [(1003,9,[rc9 o])] (.exit 0) Q → WL Tryz.prog 44 F0 w0 [(0,rs16 v0),(3,.row 1003),(4,vi v4)] [(1003,9,[rc9 v3])] (cI (cI (cB (cA (cB (cB (cF Tryz.f19))))))) Q:=by
 induction k with
 | zero=>intro v3 v4 o h; cases h
 | succ k ih =>
  intro v3 v4 o h hQ
  rw [ref33_Listed_l1] at h
  refine WL.round (Wp.seq (Wp.seq (rg [0,3,4,11] [1003] [(0,rs16 v0),(3,.row 1003),(4,vi v4),(11,vb (decide (v4 < (List.length v0:Int))))] [(1003,9,[rc9 v3])] (To.thenN (cn h (fun h=>?_) (fun h=>?_))))))
  ·refine Wp.skip (To.thenN (Wp.seq (Wp.block ?_)))
   obtain ⟨hc1,h⟩:=chk_of h
   obtain ⟨hc2,h⟩:=chk_of h
   refine rr [] [(6,ls ([((v0)[Int.toNat v4]?.getD zx2).f_Name])),(7,ls (v3 ++ (ex31 v0 v4)))] [] [0,3,4] [21] [(0,rs16 v0),(3,.row 21),(4,vi v4)] [(21,9,[rc9 (v3 ++ (ex31 v0 v4))])] [_,(MkOb 1 [.str (((v0)[Int.toNat v4]?.getD zx2).f_Name)] 1 (ls ([((v0)[Int.toNat v4]?.getD zx2).f_Name])) ∧ GoodR (ls ([((v0)[Int.toNat v4]?.getD zx2).f_Name]))),_,(AppOb [] E_string v3 (List.flatMap E_string (ex31 v0 v4)) (List.length (ex31 v0 v4)) (ls (v3 ++ (ex31 v0 v4))) ∧ GoodR (ls (v3 ++ (ex31 v0 v4))))] (AllP.cons hc1 (AllP.cons (mkOb (by kernel_rfl) rfl (by kernel_rfl) (good_E_string _)) (AllP.cons hc2 (AllP.cons (appOb rfl rfl (good_E_string _)) AllP.nil)))) (To.blockN (To.thenN (rg [0,3,4] [21] [(0,rs16 v0),(3,.row 21),(ex27 v4)] [(21,9,[rc9 (v3 ++ (ex31 v0 v4))])] (nt [0,3,4] [21] [(21,1003)] [0,3,4] [1003] [(0,rs16 v0),(3,.row 1003),(ex27 v4)] [(1003,9,[rc9 (v3 ++ (ex31 v0 v4))])] (To.again ?_)))))
   exact ih (v3 ++ (ex31 v0 v4)) (IntKind.wrap .i64 (v4 + 1)) _ h hQ
  ·refine Wp.exit (To.thenX (To.thenX (kt [0,3] [1003] [(0,rs16 v0),(3,.row 1003)] [(1003,9,[rc9 v3])] ?_)))
   cases h
   exact hQ
def ref33_Listed_l2 (n:Nat) (v0:List (S_api_Kept)) (v3:List (List UInt8)):Nat → (List (S_api_Kept)) → Int → Option ((List (S_api_Kept)))
 | 0,_,_=>none
 | k + 1,v5,v6=>if (decide (v6 < (List.length v3:Int))) = true then (if (decide (0 ≤ v6 ∧ v6 < (List.length v3:Int))) = true then ((ref33_at n v0 ((v3)[Int.toNat v6]?.getD [])).bind fun r3 =>
 if (decide (0 ≤ r3 ∧ r3 < (List.length v0:Int))) = true then (if (decide ((List.length v5 + List.length ([((v0)[Int.toNat r3]?.getD (S_api_Kept.mk [] []))]:List (S_api_Kept))) * (32 + 1) ≤ limit)) = true then (ref33_Listed_l2 n v0 v3 k (v5 ++ ([((v0)[Int.toNat r3]?.getD (S_api_Kept.mk [] []))]:List (S_api_Kept))) (IntKind.wrap .i64 (v6 + 1))) else none) else none) else none)
 else some v5
abbrev ex32 (x0:Int):Nat × D:=(6,vi (IntKind.wrap .i64 (x0 + 1)))
theorem ok_ref33_Listed_l2 (n:Nat) (v0:List (S_api_Kept)) (v3:List (List UInt8)) {F0:Fz} {w0:Pt Tryz.prog} {Q:Exit → Act → World → Prop} (k:Nat):∀ (v5:List (S_api_Kept)) (v6:Int) (o:(List (S_api_Kept))),ref33_Listed_l2 n v0 v3 k v5 v6 = some o → To 44 F0 w0 [(5,.row 1005)] [(1005,134,[rc17 o])] (.exit 2) Q → WL Tryz.prog 44 F0 w0 [(0,rs16 v0),(3,ls v3),(5,.row 1005),(6,vi v6)] [(1005,134,[rc17 v5])] (cI (cI (cB (cA (cB (cB (cB (cB (cB (cF Tryz.f19)))))))))) Q:=by
 induction k with
 | zero=>intro v5 v6 o h; cases h
 | succ k ih =>
  intro v5 v6 o h hQ
  rw [ref33_Listed_l2] at h
  refine WL.round (Wp.seq (Wp.seq (rg [0,3,5,6,28] [1005] [(0,rs16 v0),(3,ls v3),(5,.row 1005),(6,vi v6),(28,vb (ex16 v6 v3))] [(1005,134,[rc17 v5])] (To.thenN (cn h (fun h=>?_) (fun h=>?_))))))
  ·refine Wp.skip (To.thenN (Wp.seq (Wp.block ?_)))
   obtain ⟨hc4,h⟩:=chk_of h
   obtain ⟨r3,hr3,h⟩:=bind_of h
   obtain ⟨hc5,h⟩:=chk_of h
   obtain ⟨hc6,h⟩:=chk_of h
   refine rr [] [(7,vi r3),(10,rs16 ([((v0)[Int.toNat r3]?.getD zx2)])),(11,rs16 (v5 ++ ([((v0)[Int.toNat r3]?.getD zx2)]:List (S_api_Kept))))] [] [0,3,5,6] [42] [(0,rs16 v0),(3,ls v3),(5,.row 42),(6,vi v6)] [(42,134,[rc17 (v5 ++ ([((v0)[Int.toNat r3]?.getD zx2)]:List (S_api_Kept)))])] [_,_,_,(MkOb 2 [.str (((v0)[Int.toNat r3]?.getD zx2).f_Name),.str (((v0)[Int.toNat r3]?.getD zx2).f_Project)] 1 (rs16 ([((v0)[Int.toNat r3]?.getD zx2)])) ∧ GoodR (rs16 ([((v0)[Int.toNat r3]?.getD zx2)]))),_,(AppOb zx2 E_api_Kept v5 (List.flatMap E_api_Kept ([((v0)[Int.toNat r3]?.getD zx2)]:List (S_api_Kept))) (List.length ([((v0)[Int.toNat r3]?.getD zx2)]:List (S_api_Kept))) (rs16 (v5 ++ ([((v0)[Int.toNat r3]?.getD zx2)]:List (S_api_Kept)))) ∧ GoodR (rs16 (v5 ++ ([((v0)[Int.toNat r3]?.getD zx2)]:List (S_api_Kept)))))] (AllP.cons hc4 (AllP.cons (c1 (ok_ref33_at n v0 ((v3)[Int.toNat v6]?.getD []) _ hr3)) (AllP.cons hc5 (AllP.cons (mkOb (by kernel_rfl) rfl (by kernel_rfl) (good_E_api_Kept _)) (AllP.cons hc6 (AllP.cons (appOb rfl rfl (good_E_api_Kept _)) AllP.nil)))))) (To.blockN (To.thenN (rg [0,3,5,6] [42] [(0,rs16 v0),(3,ls v3),(5,.row 42),(ex32 v6)] [(42,134,[rc17 (v5 ++ ([((v0)[Int.toNat r3]?.getD zx2)]:List (S_api_Kept)))])] (nt [0,3,5,6] [42] [(42,1005)] [0,3,5,6] [1005] [(0,rs16 v0),(3,ls v3),(5,.row 1005),(ex32 v6)] [(1005,134,[rc17 (v5 ++ ([((v0)[Int.toNat r3]?.getD zx2)]:List (S_api_Kept)))])] (To.again ?_)))))
   exact ih (v5 ++ ([((v0)[Int.toNat r3]?.getD zx2)]:List (S_api_Kept))) (IntKind.wrap .i64 (v6 + 1)) _ h hQ
  ·refine Wp.exit (To.thenX (To.thenX (kt [5] [1005] [(5,.row 1005)] [(1005,134,[rc17 v5])] ?_)))
   cases h
   exact hQ
def ref33_Listed (n:Nat) (a0:List (S_api_Kept)):Option ((List (S_api_Kept))) :=
 (ref33_Listed_l1 n a0 n ([]:List (List UInt8)) 0).bind fun o1 =>
 (ref02_Sorted n o1).bind fun r2 =>
 (ref33_Listed_l2 n a0 r2 n ([]:List (S_api_Kept)) 0).bind fun o3 =>
 some o3
theorem ok_ref33_Listed (n:Nat) (a0:List (S_api_Kept)) (r:(List (S_api_Kept))) (h:ref33_Listed n a0 = some r):CallsX Tryz.prog 19 [rs16 a0] (rs16 r):=by
 unfold ref33_Listed at h
 refine xo Tryz.f19 rfl fun F0 w0 _=>?_
 refine Wp.seq (rg [0] [] [(0,rs16 a0)] [] (To.thenN (Wp.seq (rr [] [(0,ls [])] [] [0,3] [7] [(0,rs16 a0),(3,.row 7)] [(7,9,[rc9 []])] [(MkOb 1 [] 0 (ls []) ∧ GoodR (ls []))] (AllP.cons (mkOb (by kernel_rfl) rfl (by kernel_rfl) (good_E_string _)) AllP.nil) (To.thenN (Wp.seq (Wp.seq (rg [0,3,4] [7] [(0,rs16 a0),(3,.row 7),(4,vi 0)] [(7,9,[rc9 []])] (To.thenN (Wp.block ?_))))))))))
 obtain ⟨o1,ho1,h⟩:=bind_of h
 refine nw [0,3,4] [7] [(7,1003)] [0,3,4] [1003] [(0,rs16 a0),(3,.row 1003),(4,vi 0)] [(1003,9,[rc9 []])] (Wp.loopL (ok_ref33_Listed_l1 n a0 n ([]:List (List UInt8)) 0 o1 ho1 (To.blockX (To.thenN (Wp.seq ?_)))))
 obtain ⟨r2,hr2,h⟩:=bind_of h
 refine rc [(1,[1003])] 1 [0,3] [] [(0,rs16 a0),(3,ls r2)] [] (ok_ref02_Sorted n o1 _ hr2) (To.thenN (Wp.seq (rr [] [(0,rs16 [])] [] [0,3,5] [24] [(0,rs16 a0),(3,ls r2),(5,.row 24)] [(24,134,[rc17 []])] [(MkOb 2 [] 0 (rs16 []) ∧ GoodR (rs16 []))] (AllP.cons (mkOb (by kernel_rfl) rfl (by kernel_rfl) (good_E_api_Kept _)) AllP.nil) (To.thenN (Wp.seq (Wp.seq (rg [0,3,5,6] [24] [(0,rs16 a0),(3,ls r2),(5,.row 24),(6,vi 0)] [(24,134,[rc17 []])] (To.thenN (Wp.block ?_)))))))))
 obtain ⟨o3,ho3,h⟩:=bind_of h
 refine nw [0,3,5,6] [24] [(24,1005)] [0,3,5,6] [1005] [(0,rs16 a0),(3,ls r2),(5,.row 1005),(6,vi 0)] [(1005,134,[rc17 []])] (Wp.loopL (ok_ref33_Listed_l2 n a0 r2 n ([]:List (S_api_Kept)) 0 o3 ho3 (To.blockX (To.thenN (Wp.seq (rg [2] [1005] [(2,.row 1005)] [(1005,134,[rc17 o3])] (To.thenN (Wp.ret (To.pre (St.settle (ks:=[1005]) (kk:=[2]) (kl:=[1005]) (K':=[(2,.row 1005)]) (L':=[(1005,134,[rc18 o3])]) (by kernel_rfl)) (To.pre (St.sealK [2] (K':=[(2,rs16 o3)]) (by kernel_rfl)) ?_))))))))))
 cases h
 exact To.done hΓ (by kernel_rfl)
def ref33_SameKept_l1 (n:Nat) (v0:List (S_api_Kept)) (v1:List (S_api_Kept)):Nat → Int → Option (Sum (Unit) (Bool))
 | 0,_=>none
 | k + 1,v5=>if (decide (v5 < (List.length v0:Int))) = true then (if (decide (0 ≤ v5 ∧ v5 < (List.length v0:Int))) = true then (if (decide (0 ≤ v5 ∧ v5 < (List.length v1:Int))) = true then (lett ((!((((v0)[Int.toNat v5]?.getD (S_api_Kept.mk [] [])).f_Name == ((v1)[Int.toNat v5]?.getD (S_api_Kept.mk [] [])).f_Name) && (((v0)[Int.toNat v5]?.getD (S_api_Kept.mk [] [])).f_Project == ((v1)[Int.toNat v5]?.getD (S_api_Kept.mk [] [])).f_Project))):Bool) fun x1 =>
 if x1 = true then (some (.inr false))
 else (ref33_SameKept_l1 n v0 v1 k (IntKind.wrap .i64 (v5 + 1)))) else none) else none)
 else (some (.inl ()))
theorem ok_ref33_SameKept_l1 (n:Nat) (v0:List (S_api_Kept)) (v1:List (S_api_Kept)) {F0:Fz} {w0:Pt Tryz.prog} {Q:Exit → Act → World → Prop} (k:Nat):∀ (v5:Int) (o:Sum (Unit) (Bool)),ref33_SameKept_l1 n v0 v1 k v5 = some o → (Sum.elim (fun s=>To 26 F0 w0 [] [] (.exit 0) Q) (fun s=>To 26 F0 w0 [(4,vb s)] [] .ret Q)) o → WL Tryz.prog 26 F0 w0 [(0,rs16 v0),(1,rs16 v1),(5,vi v5)] [] (cI (cI (cB (cA (cB (cB (cF Tryz.f17))))))) Q:=by
 induction k with
 | zero=>intro v5 o h; cases h
 | succ k ih =>
  intro v5 o h hQ
  rw [ref33_SameKept_l1] at h
  refine WL.round (Wp.seq (Wp.seq (rg [0,1,5,14] [] [(0,rs16 v0),(1,rs16 v1),(5,vi v5),(14,vb (decide (v5 < (List.length v0:Int))))] [] (To.thenN (cn h (fun h=>?_) (fun h=>?_))))))
  ·refine Wp.skip (To.thenN (Wp.seq (Wp.block (Wp.seq ?_))))
   obtain ⟨hc2,h⟩:=chk_of h
   obtain ⟨hc3,h⟩:=chk_of h
   obtain ⟨x1,hx1,h⟩:=lett_of h
   refine Wp.regionD hm hΓ [] [0,1,5,25] [] (K':=[(0,rs16 v0),(1,rs16 v1),(5,vi v5),(25,vb (!(((ex14 v0 v5).f_Name == (ex14 v1 v5).f_Name) && ((ex14 v0 v5).f_Project == (ex14 v1 v5).f_Project))))]) (L':=[]) (ob:=[(decide (0 ≤ v5 ∧ v5 < (List.length v0:Int))) = true,(decide (0 ≤ v5 ∧ v5 < (List.length v1:Int))) = true]) (by kernel_rfl) (AllP.cons hc2 (AllP.cons hc3 AllP.nil)) (To.eq (K':=[(0,rs16 v0),(1,rs16 v1),(5,vi v5),(25,vb x1)]) (L':=[]) (by cases hx1; rfl) (by cases hx1; rfl) (To.thenN (cn h (fun h=>?_) (fun h=>?_))))
   ·refine Wp.seq (rg [4] [] [(4,vb false)] [] (To.thenN (Wp.ret (To.blockR (To.thenR (To.thenR ?_))))))
    cases h
    exact hQ
   ·refine Wp.skip (To.blockN (To.thenN (rg [0,1,5] [] [(0,rs16 v0),(1,rs16 v1),(ex2 v5)] [] (kt [0,1,5] [] [(0,rs16 v0),(1,rs16 v1),(ex2 v5)] [] (To.again ?_)))))
    exact ih (IntKind.wrap .i64 (v5 + 1)) _ h hQ
  ·refine Wp.exit (To.thenX (To.thenX (kt [] [] [] [] ?_)))
   cases h
   exact hQ
def ref33_SameKept (n:Nat) (a0:List (S_api_Kept)) (a1:List (S_api_Kept)):Option (Bool) :=
 if ((List.length a0:Int) != (List.length a1:Int)) = true then some false
 else ((ref33_SameKept_l1 n a0 a1 n 0).bind fun o1 =>
 (Sum.elim (fun o1=>some true) (fun o1=>some o1)) o1)
theorem ok_ref33_SameKept (n:Nat) (a0:List (S_api_Kept)) (a1:List (S_api_Kept)) (r:Bool) (h:ref33_SameKept n a0 a1 = some r):CallsX Tryz.prog 17 [rs16 a0,rs16 a1] (vb r):=by
 unfold ref33_SameKept at h
 refine xo Tryz.f17 rfl fun F0 w0 _=>?_
 refine Wp.seq (rg [0,1] [] [(0,rs16 a0),(1,rs16 a1)] [] (To.thenN (Wp.seq (Wp.seq (rg [0,1,10] [] [(0,rs16 a0),(1,rs16 a1),(10,vb ((List.length a0:Int) != (List.length a1:Int)))] [] (To.thenN (cn h (fun h=>?_) (fun h=>?_))))))))
 ·refine Wp.seq (rg [4] [] [(4,vb false)] [] (To.thenN (Wp.ret (To.thenR ?_))))
  cases h
  exact To.done hΓ (by kernel_rfl)
 ·refine Wp.skip (To.thenN (Wp.seq (Wp.seq (rg [0,1,5] [] [(0,rs16 a0),(1,rs16 a1),(5,vi 0)] [] (To.thenN (Wp.block ?_))))))
  obtain ⟨o1,ho1,h⟩:=bind_of h
  refine kw [0,1,5] [] [(0,rs16 a0),(1,rs16 a1),(5,vi 0)] [] (Wp.loopL (ok_ref33_SameKept_l1 n a0 a1 n 0 o1 ho1 ?_))
  rcases o1 with o1 | o1
  ·replace h:=sum_l h
   refine To.blockX (To.thenN (Wp.seq (rg [4] [] [(4,vb true)] [] (To.thenN (Wp.ret ?_)))))
   cases h
   exact To.done hΓ (by kernel_rfl)
  ·replace h:=sum_r h
   refine To.blockR (To.thenR ?_)
   cases h
   exact To.done hΓ (by kernel_rfl)
def store_Store_Vols__o0 (n:Nat) (h0:S_store_Store):Option ((List (S_api_Kept)) × S_store_Store) :=
 (store_shelf_list__m0 n h0.f_vols).bind fun r1 =>
 some (r1.1,(S_store_Store.mk h0.f_boxes h0.f_nets r1.2 h0.f_last))
theorem ok_store_Store_Vols__o0 (n:Nat) (h0:S_store_Store) (r:(List (S_api_Kept)) × S_store_Store) (h:store_Store_Vols__o0 n h0 = some r):CallsB Tryz.prog 20 [.own 1000000 0] (qf5 1000000 1010060 1010061 1010062 h0) (rs16 r.1) (qf5 1000000 1010060 1010061 1010062 r.2):=by
 unfold store_Store_Vols__o0 at h
 refine bo Tryz.f20 rfl fun F0 w0=>?_
 refine Wp.seq (rg [0] [1000000,1010060,1010061,1010062] [(0,.own 1000000 0)] (qf5 1000000 1010060 1010061 1010062 h0) (To.thenN (Wp.seq (Wp.seq (rg [0,4] [1000000,1010060,1010061,1010062] [(0,.own 1000000 0),(4,vb false)] (qf5 1000000 1010060 1010061 1010062 h0) (To.thenN (Wp.cond (b:=false) (by kernel_rfl) (fun hb=>by cases hb) (fun _=>(Wp.skip (To.thenN (Wp.seq ?_)))))))))))
 obtain ⟨r1,hr1,h⟩:=bind_of h
 refine rb [] 4 ⟨[(1000000,1010062)],[(1000000,1010062)],[.mp 1000000],[(1000000,107,[mc4 h0.f_vols])],rs16 r1.1,[(1000000,107,[mc4 r1.2])]⟩ [2] [1000000,1010060,1010061,1010062] [(2,rs16 r1.1)] [(1000000,109,[.mp 1010060,.mp 1010061,.mp 1010062,vi h0.f_last]),(1010060,105,[mc3 h0.f_boxes]),(1010061,107,[mc4 h0.f_nets]),(1010062,107,[mc4 r1.2])] ((ok_store_shelf_list__m0 n h0.f_vols _ hr1)) (To.thenN (Wp.ret ?_))
 cases h
 exact To.doneB hΓ [1000000,1010060,1010061,1010062] (by kernel_rfl) (by kernel_rfl)
def store_Store_Box__o0 (n:Nat) (a1:Int) (h0:S_store_Store):Option (S_life_Box × Bool × S_store_Store) :=
 (slices_Clone_string_string n (((mlook h0.f_boxes (.inr a1)).getD Z_life_Box).f_Spec.f_Nets)).bind fun r1 =>
 (slices_Clone_string_string n (((mlook h0.f_boxes (.inr a1)).getD Z_life_Box).f_Spec.f_Vols)).bind fun r2 =>
 some ((S_life_Box.mk (S_api_Spec.mk (((mlook h0.f_boxes (.inr a1)).getD Z_life_Box).f_Spec.f_Name) (((mlook h0.f_boxes (.inr a1)).getD Z_life_Box).f_Spec.f_Project) (((mlook h0.f_boxes (.inr a1)).getD Z_life_Box).f_Spec.f_Service) (((mlook h0.f_boxes (.inr a1)).getD Z_life_Box).f_Spec.f_Number) (((mlook h0.f_boxes (.inr a1)).getD Z_life_Box).f_Spec.f_Hash) r1 r2 (S_api_Check.mk (((mlook h0.f_boxes (.inr a1)).getD Z_life_Box).f_Spec.f_Health.f_Test) (((mlook h0.f_boxes (.inr a1)).getD Z_life_Box).f_Spec.f_Health.f_Every) (((mlook h0.f_boxes (.inr a1)).getD Z_life_Box).f_Spec.f_Health.f_Start) (((mlook h0.f_boxes (.inr a1)).getD Z_life_Box).f_Spec.f_Health.f_Retries)) (((mlook h0.f_boxes (.inr a1)).getD Z_life_Box).f_Spec.f_Restart) (((mlook h0.f_boxes (.inr a1)).getD Z_life_Box).f_Spec.f_Tries)) (((mlook h0.f_boxes (.inr a1)).getD Z_life_Box).f_Id) (((mlook h0.f_boxes (.inr a1)).getD Z_life_Box).f_State) (((mlook h0.f_boxes (.inr a1)).getD Z_life_Box).f_Code) (((mlook h0.f_boxes (.inr a1)).getD Z_life_Box).f_Runs) (((mlook h0.f_boxes (.inr a1)).getD Z_life_Box).f_Done) (((mlook h0.f_boxes (.inr a1)).getD Z_life_Box).f_At) (((mlook h0.f_boxes (.inr a1)).getD Z_life_Box).f_ByHand) (((mlook h0.f_boxes (.inr a1)).getD Z_life_Box).f_Sick) (S_probe_State.mk (((mlook h0.f_boxes (.inr a1)).getD Z_life_Box).f_Probe.f_Health) (((mlook h0.f_boxes (.inr a1)).getD Z_life_Box).f_Probe.f_Fails) (((mlook h0.f_boxes (.inr a1)).getD Z_life_Box).f_Probe.f_Began) (((mlook h0.f_boxes (.inr a1)).getD Z_life_Box).f_Probe.f_Next))),(mlook h0.f_boxes (.inr a1)).isSome,h0)
theorem ok_store_Store_Box__o0 (n:Nat) (a1:Int) (h0:S_store_Store) (r:S_life_Box × Bool × S_store_Store) (h:store_Store_Box__o0 n a1 h0 = some r):CallsB Tryz.prog 21 [.own 1000000 0,vi a1] (qf5 1000000 1010060 1010061 1010062 h0) (.tup [.agg (qc8 r.1),vb r.2.1]) (qf5 1000000 1010060 1010061 1010062 r.2.2):=by
 unfold store_Store_Box__o0 at h
 refine bo Tryz.f21 rfl fun F0 w0=>?_
 refine Wp.seq (rg [0,1,4] [4,1000000,1010060,1010061,1010062] [(0,.own 1000000 0),(1,vi a1),(4,.own 4 0)] ((4,53,[.str [],.str [],.str [],vi 0,.str [],.val (.slice none 0 0),.val (.slice none 0 0),.str [],vi 0,vi 0,vi 0,vi 0,vi 0,vi 0,vi 0,vi 0,vi 0,vi 0,vi 0,vb false,vb false,vi 0,vi 0,vi 0,vi 0])::qf5 1000000 1010060 1010061 1010062 h0) (To.thenN (Wp.seq (Wp.seq (rg [0,1,4,9] [4,1000000,1010060,1010061,1010062] [(0,.own 1000000 0),(1,vi a1),(4,.own 4 0),(9,vb false)] ((4,53,[.str [],.str [],.str [],vi 0,.str [],.val (.slice none 0 0),.val (.slice none 0 0),.str [],vi 0,vi 0,vi 0,vi 0,vi 0,vi 0,vi 0,vi 0,vi 0,vi 0,vi 0,vb false,vb false,vi 0,vi 0,vi 0,vi 0])::qf5 1000000 1010060 1010061 1010062 h0) (To.thenN (Wp.cond (b:=false) (by kernel_rfl) (fun hb=>by cases hb) (fun _=>(Wp.skip (To.thenN (Wp.seq ?_)))))))))))
 refine rr [] [(5,.tup [.agg [.str (((mlook h0.f_boxes (.inr a1)).getD Z_life_Box).f_Spec.f_Name),.str (((mlook h0.f_boxes (.inr a1)).getD Z_life_Box).f_Spec.f_Project),.str (((mlook h0.f_boxes (.inr a1)).getD Z_life_Box).f_Spec.f_Service),vi (((mlook h0.f_boxes (.inr a1)).getD Z_life_Box).f_Spec.f_Number),.str (((mlook h0.f_boxes (.inr a1)).getD Z_life_Box).f_Spec.f_Hash),ls (((mlook h0.f_boxes (.inr a1)).getD Z_life_Box).f_Spec.f_Nets),ls (((mlook h0.f_boxes (.inr a1)).getD Z_life_Box).f_Spec.f_Vols),.str (((mlook h0.f_boxes (.inr a1)).getD Z_life_Box).f_Spec.f_Health.f_Test),vi (((mlook h0.f_boxes (.inr a1)).getD Z_life_Box).f_Spec.f_Health.f_Every),vi (((mlook h0.f_boxes (.inr a1)).getD Z_life_Box).f_Spec.f_Health.f_Start),vi (((mlook h0.f_boxes (.inr a1)).getD Z_life_Box).f_Spec.f_Health.f_Retries),vi (((mlook h0.f_boxes (.inr a1)).getD Z_life_Box).f_Spec.f_Restart),vi (((mlook h0.f_boxes (.inr a1)).getD Z_life_Box).f_Spec.f_Tries),vi (((mlook h0.f_boxes (.inr a1)).getD Z_life_Box).f_Id),vi (((mlook h0.f_boxes (.inr a1)).getD Z_life_Box).f_State),vi (((mlook h0.f_boxes (.inr a1)).getD Z_life_Box).f_Code),vi (((mlook h0.f_boxes (.inr a1)).getD Z_life_Box).f_Runs),vi (((mlook h0.f_boxes (.inr a1)).getD Z_life_Box).f_Done),vi (((mlook h0.f_boxes (.inr a1)).getD Z_life_Box).f_At),vb (((mlook h0.f_boxes (.inr a1)).getD Z_life_Box).f_ByHand),vb (((mlook h0.f_boxes (.inr a1)).getD Z_life_Box).f_Sick),vi (((mlook h0.f_boxes (.inr a1)).getD Z_life_Box).f_Probe.f_Health),vi (((mlook h0.f_boxes (.inr a1)).getD Z_life_Box).f_Probe.f_Fails),vi (((mlook h0.f_boxes (.inr a1)).getD Z_life_Box).f_Probe.f_Began),vi (((mlook h0.f_boxes (.inr a1)).getD Z_life_Box).f_Probe.f_Next)],vb ((mlook h0.f_boxes (.inr a1)).isSome)])] [] [4,6,7] [4,6,1000000,1010060,1010061,1010062] [(4,.own 4 0),(6,.own 6 0),(7,vb ((mlook h0.f_boxes (.inr a1)).isSome))] ((4,53,[.str [],.str [],.str [],vi 0,.str [],.val (.slice none 0 0),.val (.slice none 0 0),.str [],vi 0,vi 0,vi 0,vi 0,vi 0,vi 0,vi 0,vi 0,vi 0,vi 0,vi 0,vb false,vb false,vi 0,vi 0,vi 0,vi 0])::(6,53,[.str (((mlook h0.f_boxes (.inr a1)).getD Z_life_Box).f_Spec.f_Name),.str (((mlook h0.f_boxes (.inr a1)).getD Z_life_Box).f_Spec.f_Project),.str (((mlook h0.f_boxes (.inr a1)).getD Z_life_Box).f_Spec.f_Service),vi (((mlook h0.f_boxes (.inr a1)).getD Z_life_Box).f_Spec.f_Number),.str (((mlook h0.f_boxes (.inr a1)).getD Z_life_Box).f_Spec.f_Hash),ls (((mlook h0.f_boxes (.inr a1)).getD Z_life_Box).f_Spec.f_Nets),ls (((mlook h0.f_boxes (.inr a1)).getD Z_life_Box).f_Spec.f_Vols),.str (((mlook h0.f_boxes (.inr a1)).getD Z_life_Box).f_Spec.f_Health.f_Test),vi (((mlook h0.f_boxes (.inr a1)).getD Z_life_Box).f_Spec.f_Health.f_Every),vi (((mlook h0.f_boxes (.inr a1)).getD Z_life_Box).f_Spec.f_Health.f_Start),vi (((mlook h0.f_boxes (.inr a1)).getD Z_life_Box).f_Spec.f_Health.f_Retries),vi (((mlook h0.f_boxes (.inr a1)).getD Z_life_Box).f_Spec.f_Restart),vi (((mlook h0.f_boxes (.inr a1)).getD Z_life_Box).f_Spec.f_Tries),vi (((mlook h0.f_boxes (.inr a1)).getD Z_life_Box).f_Id),vi (((mlook h0.f_boxes (.inr a1)).getD Z_life_Box).f_State),vi (((mlook h0.f_boxes (.inr a1)).getD Z_life_Box).f_Code),vi (((mlook h0.f_boxes (.inr a1)).getD Z_life_Box).f_Runs),vi (((mlook h0.f_boxes (.inr a1)).getD Z_life_Box).f_Done),vi (((mlook h0.f_boxes (.inr a1)).getD Z_life_Box).f_At),vb (((mlook h0.f_boxes (.inr a1)).getD Z_life_Box).f_ByHand),vb (((mlook h0.f_boxes (.inr a1)).getD Z_life_Box).f_Sick),vi (((mlook h0.f_boxes (.inr a1)).getD Z_life_Box).f_Probe.f_Health),vi (((mlook h0.f_boxes (.inr a1)).getD Z_life_Box).f_Probe.f_Fails),vi (((mlook h0.f_boxes (.inr a1)).getD Z_life_Box).f_Probe.f_Began),vi (((mlook h0.f_boxes (.inr a1)).getD Z_life_Box).f_Probe.f_Next)])::qf5 1000000 1010060 1010061 1010062 h0) [(true = true → LookOkOb true E_life_Box h0.f_boxes (.inr a1) [.str [],.str [],.str [],vi 0,.str [],.val (.slice none 0 0),.val (.slice none 0 0),.str [],vi 0,vi 0,vi 0,vi 0,vi 0,vi 0,vi 0,vi 0,vi 0,vi 0,vi 0,vb false,vb false,vi 0,vi 0,vi 0,vi 0] (.tup [.agg [.str (((mlook h0.f_boxes (.inr a1)).getD Z_life_Box).f_Spec.f_Name),.str (((mlook h0.f_boxes (.inr a1)).getD Z_life_Box).f_Spec.f_Project),.str (((mlook h0.f_boxes (.inr a1)).getD Z_life_Box).f_Spec.f_Service),vi (((mlook h0.f_boxes (.inr a1)).getD Z_life_Box).f_Spec.f_Number),.str (((mlook h0.f_boxes (.inr a1)).getD Z_life_Box).f_Spec.f_Hash),ls (((mlook h0.f_boxes (.inr a1)).getD Z_life_Box).f_Spec.f_Nets),ls (((mlook h0.f_boxes (.inr a1)).getD Z_life_Box).f_Spec.f_Vols),.str (((mlook h0.f_boxes (.inr a1)).getD Z_life_Box).f_Spec.f_Health.f_Test),vi (((mlook h0.f_boxes (.inr a1)).getD Z_life_Box).f_Spec.f_Health.f_Every),vi (((mlook h0.f_boxes (.inr a1)).getD Z_life_Box).f_Spec.f_Health.f_Start),vi (((mlook h0.f_boxes (.inr a1)).getD Z_life_Box).f_Spec.f_Health.f_Retries),vi (((mlook h0.f_boxes (.inr a1)).getD Z_life_Box).f_Spec.f_Restart),vi (((mlook h0.f_boxes (.inr a1)).getD Z_life_Box).f_Spec.f_Tries),vi (((mlook h0.f_boxes (.inr a1)).getD Z_life_Box).f_Id),vi (((mlook h0.f_boxes (.inr a1)).getD Z_life_Box).f_State),vi (((mlook h0.f_boxes (.inr a1)).getD Z_life_Box).f_Code),vi (((mlook h0.f_boxes (.inr a1)).getD Z_life_Box).f_Runs),vi (((mlook h0.f_boxes (.inr a1)).getD Z_life_Box).f_Done),vi (((mlook h0.f_boxes (.inr a1)).getD Z_life_Box).f_At),vb (((mlook h0.f_boxes (.inr a1)).getD Z_life_Box).f_ByHand),vb (((mlook h0.f_boxes (.inr a1)).getD Z_life_Box).f_Sick),vi (((mlook h0.f_boxes (.inr a1)).getD Z_life_Box).f_Probe.f_Health),vi (((mlook h0.f_boxes (.inr a1)).getD Z_life_Box).f_Probe.f_Fails),vi (((mlook h0.f_boxes (.inr a1)).getD Z_life_Box).f_Probe.f_Began),vi (((mlook h0.f_boxes (.inr a1)).getD Z_life_Box).f_Probe.f_Next)],vb ((mlook h0.f_boxes (.inr a1)).isSome)]))] (AllP.cons (fun _=>⟨Z_life_Box,.agg [.str (((mlook h0.f_boxes (.inr a1)).getD Z_life_Box).f_Spec.f_Name),.str (((mlook h0.f_boxes (.inr a1)).getD Z_life_Box).f_Spec.f_Project),.str (((mlook h0.f_boxes (.inr a1)).getD Z_life_Box).f_Spec.f_Service),vi (((mlook h0.f_boxes (.inr a1)).getD Z_life_Box).f_Spec.f_Number),.str (((mlook h0.f_boxes (.inr a1)).getD Z_life_Box).f_Spec.f_Hash),ls (((mlook h0.f_boxes (.inr a1)).getD Z_life_Box).f_Spec.f_Nets),ls (((mlook h0.f_boxes (.inr a1)).getD Z_life_Box).f_Spec.f_Vols),.str (((mlook h0.f_boxes (.inr a1)).getD Z_life_Box).f_Spec.f_Health.f_Test),vi (((mlook h0.f_boxes (.inr a1)).getD Z_life_Box).f_Spec.f_Health.f_Every),vi (((mlook h0.f_boxes (.inr a1)).getD Z_life_Box).f_Spec.f_Health.f_Start),vi (((mlook h0.f_boxes (.inr a1)).getD Z_life_Box).f_Spec.f_Health.f_Retries),vi (((mlook h0.f_boxes (.inr a1)).getD Z_life_Box).f_Spec.f_Restart),vi (((mlook h0.f_boxes (.inr a1)).getD Z_life_Box).f_Spec.f_Tries),vi (((mlook h0.f_boxes (.inr a1)).getD Z_life_Box).f_Id),vi (((mlook h0.f_boxes (.inr a1)).getD Z_life_Box).f_State),vi (((mlook h0.f_boxes (.inr a1)).getD Z_life_Box).f_Code),vi (((mlook h0.f_boxes (.inr a1)).getD Z_life_Box).f_Runs),vi (((mlook h0.f_boxes (.inr a1)).getD Z_life_Box).f_Done),vi (((mlook h0.f_boxes (.inr a1)).getD Z_life_Box).f_At),vb (((mlook h0.f_boxes (.inr a1)).getD Z_life_Box).f_ByHand),vb (((mlook h0.f_boxes (.inr a1)).getD Z_life_Box).f_Sick),vi (((mlook h0.f_boxes (.inr a1)).getD Z_life_Box).f_Probe.f_Health),vi (((mlook h0.f_boxes (.inr a1)).getD Z_life_Box).f_Probe.f_Fails),vi (((mlook h0.f_boxes (.inr a1)).getD Z_life_Box).f_Probe.f_Began),vi (((mlook h0.f_boxes (.inr a1)).getD Z_life_Box).f_Probe.f_Next)],weaks_eq (ds:=[.str [],.str [],.str [],vi 0,.str [],.val (.slice none 0 0),.val (.slice none 0 0),.str [],vi 0,vi 0,vi 0,vi 0,vi 0,vi 0,vi 0,vi 0,vi 0,vi 0,vi 0,vb false,vb false,vi 0,vi 0,vi 0,vi 0]) (es:=[.str [],.str [],.str [],vi 0,.str [],ls [],ls [],.str [],vi 0,vi 0,vi 0,vi 0,vi 0,vi 0,vi 0,vi 0,vi 0,vi 0,vi 0,vb false,vb false,vi 0,vi 0,vi 0,vi 0]) (by kernel_rfl) (.cons (.refl _) (.cons (.refl _) (.cons (.refl _) (.cons (.refl _) (.cons (.refl _) (.cons (.zero _ _) (.cons (.zero _ _) (.cons (.refl _) (.cons (.refl _) (.cons (.refl _) (.cons (.refl _) (.cons (.refl _) (.cons (.refl _) (.cons (.refl _) (.cons (.refl _) (.cons (.refl _) (.cons (.refl _) (.cons (.refl _) (.cons (.refl _) (.cons (.refl _) (.cons (.refl _) (.cons (.refl _) (.cons (.refl _) (.cons (.refl _) (.cons (.refl _) .nil))))))))))))))))))))))))) (by kernel_rfl),by kernel_rfl,by kernel_rfl⟩) AllP.nil) ?_
 refine To.thenN (Wp.seq ?_)
 obtain ⟨r1,hr1,h⟩:=bind_of h
 obtain ⟨r2,hr2,h⟩:=bind_of h
 refine Wp.regionO hm hΓ [] [(3,ls r1),(7,ls r2)] [] [4,6,7,20,21,22,23,24,25,26,27,28,29,30,31] [4,6,1000000,1010060,1010061,1010062] [4,6,7] [4,6,1000000,1010060,1010061,1010062] (K':=[(4,.own 4 0),(6,.own 6 0),(7,vb ((mlook h0.f_boxes (.inr a1)).isSome))]) (L':=((4,53,[.str [],.str [],.str [],vi 0,.str [],.val (.slice none 0 0),.val (.slice none 0 0),.str [],vi 0,vi 0,vi 0,vi 0,vi 0,vi 0,vi 0,vi 0,vi 0,vi 0,vi 0,vb false,vb false,vi 0,vi 0,vi 0,vi 0])::(6,53,[.str (((mlook h0.f_boxes (.inr a1)).getD Z_life_Box).f_Spec.f_Name),.str (((mlook h0.f_boxes (.inr a1)).getD Z_life_Box).f_Spec.f_Project),.str (((mlook h0.f_boxes (.inr a1)).getD Z_life_Box).f_Spec.f_Service),vi (((mlook h0.f_boxes (.inr a1)).getD Z_life_Box).f_Spec.f_Number),.str (((mlook h0.f_boxes (.inr a1)).getD Z_life_Box).f_Spec.f_Hash),ls r1,ls r2,.str (((mlook h0.f_boxes (.inr a1)).getD Z_life_Box).f_Spec.f_Health.f_Test),vi (((mlook h0.f_boxes (.inr a1)).getD Z_life_Box).f_Spec.f_Health.f_Every),vi (((mlook h0.f_boxes (.inr a1)).getD Z_life_Box).f_Spec.f_Health.f_Start),vi (((mlook h0.f_boxes (.inr a1)).getD Z_life_Box).f_Spec.f_Health.f_Retries),vi (((mlook h0.f_boxes (.inr a1)).getD Z_life_Box).f_Spec.f_Restart),vi (((mlook h0.f_boxes (.inr a1)).getD Z_life_Box).f_Spec.f_Tries),vi (((mlook h0.f_boxes (.inr a1)).getD Z_life_Box).f_Id),vi (((mlook h0.f_boxes (.inr a1)).getD Z_life_Box).f_State),vi (((mlook h0.f_boxes (.inr a1)).getD Z_life_Box).f_Code),vi (((mlook h0.f_boxes (.inr a1)).getD Z_life_Box).f_Runs),vi (((mlook h0.f_boxes (.inr a1)).getD Z_life_Box).f_Done),vi (((mlook h0.f_boxes (.inr a1)).getD Z_life_Box).f_At),vb (((mlook h0.f_boxes (.inr a1)).getD Z_life_Box).f_ByHand),vb (((mlook h0.f_boxes (.inr a1)).getD Z_life_Box).f_Sick),vi (((mlook h0.f_boxes (.inr a1)).getD Z_life_Box).f_Probe.f_Health),vi (((mlook h0.f_boxes (.inr a1)).getD Z_life_Box).f_Probe.f_Fails),vi (((mlook h0.f_boxes (.inr a1)).getD Z_life_Box).f_Probe.f_Began),vi (((mlook h0.f_boxes (.inr a1)).getD Z_life_Box).f_Probe.f_Next)])::qf5 1000000 1010060 1010061 1010062 h0)) (ob:=[(true = true → CX Tryz.prog 64 [ls (((mlook h0.f_boxes (.inr a1)).getD Z_life_Box).f_Spec.f_Nets)] (ls r1)),(true = true → CX Tryz.prog 64 [ls (((mlook h0.f_boxes (.inr a1)).getD Z_life_Box).f_Spec.f_Vols)] (ls r2))]) (by kernel_rfl) (by kernel_rfl) (AllP.cons (fun _=>cx (ok_slices_Clone_string_string n (((mlook h0.f_boxes (.inr a1)).getD Z_life_Box).f_Spec.f_Nets) _ hr1)) (AllP.cons (fun _=>cx (ok_slices_Clone_string_string n (((mlook h0.f_boxes (.inr a1)).getD Z_life_Box).f_Spec.f_Vols) _ hr2)) AllP.nil)) (To.thenN (Wp.seq (rg [4,5] [4,1000000,1010060,1010061,1010062] [(4,.own 4 0),(5,vb ((mlook h0.f_boxes (.inr a1)).isSome))] ((4,53,[.str (((mlook h0.f_boxes (.inr a1)).getD Z_life_Box).f_Spec.f_Name),.str (((mlook h0.f_boxes (.inr a1)).getD Z_life_Box).f_Spec.f_Project),.str (((mlook h0.f_boxes (.inr a1)).getD Z_life_Box).f_Spec.f_Service),vi (((mlook h0.f_boxes (.inr a1)).getD Z_life_Box).f_Spec.f_Number),.str (((mlook h0.f_boxes (.inr a1)).getD Z_life_Box).f_Spec.f_Hash),ls r1,ls r2,.str (((mlook h0.f_boxes (.inr a1)).getD Z_life_Box).f_Spec.f_Health.f_Test),vi (((mlook h0.f_boxes (.inr a1)).getD Z_life_Box).f_Spec.f_Health.f_Every),vi (((mlook h0.f_boxes (.inr a1)).getD Z_life_Box).f_Spec.f_Health.f_Start),vi (((mlook h0.f_boxes (.inr a1)).getD Z_life_Box).f_Spec.f_Health.f_Retries),vi (((mlook h0.f_boxes (.inr a1)).getD Z_life_Box).f_Spec.f_Restart),vi (((mlook h0.f_boxes (.inr a1)).getD Z_life_Box).f_Spec.f_Tries),vi (((mlook h0.f_boxes (.inr a1)).getD Z_life_Box).f_Id),vi (((mlook h0.f_boxes (.inr a1)).getD Z_life_Box).f_State),vi (((mlook h0.f_boxes (.inr a1)).getD Z_life_Box).f_Code),vi (((mlook h0.f_boxes (.inr a1)).getD Z_life_Box).f_Runs),vi (((mlook h0.f_boxes (.inr a1)).getD Z_life_Box).f_Done),vi (((mlook h0.f_boxes (.inr a1)).getD Z_life_Box).f_At),vb (((mlook h0.f_boxes (.inr a1)).getD Z_life_Box).f_ByHand),vb (((mlook h0.f_boxes (.inr a1)).getD Z_life_Box).f_Sick),vi (((mlook h0.f_boxes (.inr a1)).getD Z_life_Box).f_Probe.f_Health),vi (((mlook h0.f_boxes (.inr a1)).getD Z_life_Box).f_Probe.f_Fails),vi (((mlook h0.f_boxes (.inr a1)).getD Z_life_Box).f_Probe.f_Began),vi (((mlook h0.f_boxes (.inr a1)).getD Z_life_Box).f_Probe.f_Next)])::qf5 1000000 1010060 1010061 1010062 h0) (To.thenN (Wp.ret ?_)))))
 cases h
 exact To.doneB hΓ [1000000,1010060,1010061,1010062] (by kernel_rfl) (by kernel_rfl)
def life_Sick (a0:S_life_Box) (a1:Bool):S_life_Box :=
 (S_life_Box.mk a0.f_Spec a0.f_Id a0.f_State a0.f_Code a0.f_Runs a0.f_Done a0.f_At a0.f_ByHand a1 a0.f_Probe)
theorem ok_life_Sick (a0:S_life_Box) (a1:Bool) (r:S_life_Box) (h:life_Sick a0 a1 = r):CallsX Tryz.prog 24 [.agg (qc8 a0),vb a1] (.agg (qc8 r)):=by
 unfold life_Sick at h
 refine xo Tryz.f24 rfl fun F0 w0 _=>?_
 refine Wp.seq (rg [1,2,4] [2,4] [(1,vb a1),(2,.own 2 0),(4,.own 4 0)] [(2,53,(E_life_Box a0)),(4,53,[.str [],.str [],.str [],vi 0,.str [],.val (.slice none 0 0),.val (.slice none 0 0),.str [],vi 0,vi 0,vi 0,vi 0,vi 0,vi 0,vi 0,vi 0,vi 0,vi 0,vi 0,vb false,vb false,vi 0,vi 0,vi 0,vi 0])] (To.thenN (Wp.seq (rg [2,4] [2,4] [(2,.own 2 0),(4,.own 4 0)] [(2,53,(List.set (E_life_Box a0) 20 (vb a1))),(4,53,[.str [],.str [],.str [],vi 0,.str [],.val (.slice none 0 0),.val (.slice none 0 0),.str [],vi 0,vi 0,vi 0,vi 0,vi 0,vi 0,vi 0,vi 0,vi 0,vi 0,vi 0,vb false,vb false,vi 0,vi 0,vi 0,vi 0])] (To.thenN (Wp.seq (rg [4] [4] [(4,.own 4 0)] [(4,53,(List.set (E_life_Box a0) 20 (vb a1)))] (To.thenN (Wp.ret ?_)))))))))
 cases h
 exact To.done hΓ (by kernel_rfl)
def store_Store_Put__o0 (n:Nat) (a1:S_life_Box) (h0:S_store_Store):Option (Bool × S_store_Store) :=
 if (!((mlook h0.f_boxes (.inr a1.f_Id)).isSome)) = true then (some (false,h0))
 else ((slices_Clone_string_string n a1.f_Spec.f_Nets).bind fun r1 =>
 (slices_Clone_string_string n a1.f_Spec.f_Vols).bind fun r2 =>
 some (true,(S_store_Store.mk (mput h0.f_boxes (.inr a1.f_Id) (S_life_Box.mk (S_api_Spec.mk a1.f_Spec.f_Name a1.f_Spec.f_Project a1.f_Spec.f_Service a1.f_Spec.f_Number a1.f_Spec.f_Hash r1 r2 a1.f_Spec.f_Health a1.f_Spec.f_Restart a1.f_Spec.f_Tries) a1.f_Id a1.f_State a1.f_Code a1.f_Runs a1.f_Done a1.f_At a1.f_ByHand a1.f_Sick a1.f_Probe)) h0.f_nets h0.f_vols h0.f_last)))
theorem ok_store_Store_Put__o0 (n:Nat) (a1:S_life_Box) (h0:S_store_Store) (r:Bool × S_store_Store) (h:store_Store_Put__o0 n a1 h0 = some r):CallsB Tryz.prog 23 [.own 1000000 0,.agg (qc8 a1)] (qf5 1000000 1010060 1010061 1010062 h0) (vb r.1) (qf5 1000000 1010060 1010061 1010062 r.2):=by
 unfold store_Store_Put__o0 at h
 refine bo Tryz.f23 rfl fun F0 w0=>?_
 refine Wp.seq (rg [0,3] [3,1000000,1010060,1010061,1010062] [(0,.own 1000000 0),(3,.own 3 0)] ((3,53,(E_life_Box a1))::qf5 1000000 1010060 1010061 1010062 h0) (To.thenN (Wp.seq (Wp.seq (rg [0,3,8] [3,1000000,1010060,1010061,1010062] [(0,.own 1000000 0),(3,.own 3 0),(8,vb false)] ((3,53,(E_life_Box a1))::qf5 1000000 1010060 1010061 1010062 h0) (To.thenN (Wp.cond (b:=false) (by kernel_rfl) (fun hb=>by cases hb) (fun _=>(Wp.skip (To.thenN (Wp.seq (Wp.seq ?_))))))))))))
 refine Wp.regionO hm hΓ [] [(6,.tup [.agg [.str (((mlook h0.f_boxes (.inr a1.f_Id)).getD Z_life_Box).f_Spec.f_Name),.str (((mlook h0.f_boxes (.inr a1.f_Id)).getD Z_life_Box).f_Spec.f_Project),.str (((mlook h0.f_boxes (.inr a1.f_Id)).getD Z_life_Box).f_Spec.f_Service),vi (((mlook h0.f_boxes (.inr a1.f_Id)).getD Z_life_Box).f_Spec.f_Number),.str (((mlook h0.f_boxes (.inr a1.f_Id)).getD Z_life_Box).f_Spec.f_Hash),ls (((mlook h0.f_boxes (.inr a1.f_Id)).getD Z_life_Box).f_Spec.f_Nets),ls (((mlook h0.f_boxes (.inr a1.f_Id)).getD Z_life_Box).f_Spec.f_Vols),.str (((mlook h0.f_boxes (.inr a1.f_Id)).getD Z_life_Box).f_Spec.f_Health.f_Test),vi (((mlook h0.f_boxes (.inr a1.f_Id)).getD Z_life_Box).f_Spec.f_Health.f_Every),vi (((mlook h0.f_boxes (.inr a1.f_Id)).getD Z_life_Box).f_Spec.f_Health.f_Start),vi (((mlook h0.f_boxes (.inr a1.f_Id)).getD Z_life_Box).f_Spec.f_Health.f_Retries),vi (((mlook h0.f_boxes (.inr a1.f_Id)).getD Z_life_Box).f_Spec.f_Restart),vi (((mlook h0.f_boxes (.inr a1.f_Id)).getD Z_life_Box).f_Spec.f_Tries),vi (((mlook h0.f_boxes (.inr a1.f_Id)).getD Z_life_Box).f_Id),vi (((mlook h0.f_boxes (.inr a1.f_Id)).getD Z_life_Box).f_State),vi (((mlook h0.f_boxes (.inr a1.f_Id)).getD Z_life_Box).f_Code),vi (((mlook h0.f_boxes (.inr a1.f_Id)).getD Z_life_Box).f_Runs),vi (((mlook h0.f_boxes (.inr a1.f_Id)).getD Z_life_Box).f_Done),vi (((mlook h0.f_boxes (.inr a1.f_Id)).getD Z_life_Box).f_At),vb (((mlook h0.f_boxes (.inr a1.f_Id)).getD Z_life_Box).f_ByHand),vb (((mlook h0.f_boxes (.inr a1.f_Id)).getD Z_life_Box).f_Sick),vi (((mlook h0.f_boxes (.inr a1.f_Id)).getD Z_life_Box).f_Probe.f_Health),vi (((mlook h0.f_boxes (.inr a1.f_Id)).getD Z_life_Box).f_Probe.f_Fails),vi (((mlook h0.f_boxes (.inr a1.f_Id)).getD Z_life_Box).f_Probe.f_Began),vi (((mlook h0.f_boxes (.inr a1.f_Id)).getD Z_life_Box).f_Probe.f_Next)],vb ((mlook h0.f_boxes (.inr a1.f_Id)).isSome)])] [] [0,3,5,6,8,9,10,11,12,13,14,15,16,17,18] [3,5,1000000,1010060,1010061,1010062] [0,3,6] [3,1000000,1010060,1010061,1010062] (K':=[(0,.own 1000000 0),(3,.own 3 0),(6,vb ((mlook h0.f_boxes (.inr a1.f_Id)).isSome))]) (L':=((3,53,(E_life_Box a1))::qf5 1000000 1010060 1010061 1010062 h0)) (ob:=[(true = true → LookOkOb true E_life_Box h0.f_boxes (.inr a1.f_Id) [.str [],.str [],.str [],vi 0,.str [],.val (.slice none 0 0),.val (.slice none 0 0),.str [],vi 0,vi 0,vi 0,vi 0,vi 0,vi 0,vi 0,vi 0,vi 0,vi 0,vi 0,vb false,vb false,vi 0,vi 0,vi 0,vi 0] (.tup [.agg [.str (((mlook h0.f_boxes (.inr a1.f_Id)).getD Z_life_Box).f_Spec.f_Name),.str (((mlook h0.f_boxes (.inr a1.f_Id)).getD Z_life_Box).f_Spec.f_Project),.str (((mlook h0.f_boxes (.inr a1.f_Id)).getD Z_life_Box).f_Spec.f_Service),vi (((mlook h0.f_boxes (.inr a1.f_Id)).getD Z_life_Box).f_Spec.f_Number),.str (((mlook h0.f_boxes (.inr a1.f_Id)).getD Z_life_Box).f_Spec.f_Hash),ls (((mlook h0.f_boxes (.inr a1.f_Id)).getD Z_life_Box).f_Spec.f_Nets),ls (((mlook h0.f_boxes (.inr a1.f_Id)).getD Z_life_Box).f_Spec.f_Vols),.str (((mlook h0.f_boxes (.inr a1.f_Id)).getD Z_life_Box).f_Spec.f_Health.f_Test),vi (((mlook h0.f_boxes (.inr a1.f_Id)).getD Z_life_Box).f_Spec.f_Health.f_Every),vi (((mlook h0.f_boxes (.inr a1.f_Id)).getD Z_life_Box).f_Spec.f_Health.f_Start),vi (((mlook h0.f_boxes (.inr a1.f_Id)).getD Z_life_Box).f_Spec.f_Health.f_Retries),vi (((mlook h0.f_boxes (.inr a1.f_Id)).getD Z_life_Box).f_Spec.f_Restart),vi (((mlook h0.f_boxes (.inr a1.f_Id)).getD Z_life_Box).f_Spec.f_Tries),vi (((mlook h0.f_boxes (.inr a1.f_Id)).getD Z_life_Box).f_Id),vi (((mlook h0.f_boxes (.inr a1.f_Id)).getD Z_life_Box).f_State),vi (((mlook h0.f_boxes (.inr a1.f_Id)).getD Z_life_Box).f_Code),vi (((mlook h0.f_boxes (.inr a1.f_Id)).getD Z_life_Box).f_Runs),vi (((mlook h0.f_boxes (.inr a1.f_Id)).getD Z_life_Box).f_Done),vi (((mlook h0.f_boxes (.inr a1.f_Id)).getD Z_life_Box).f_At),vb (((mlook h0.f_boxes (.inr a1.f_Id)).getD Z_life_Box).f_ByHand),vb (((mlook h0.f_boxes (.inr a1.f_Id)).getD Z_life_Box).f_Sick),vi (((mlook h0.f_boxes (.inr a1.f_Id)).getD Z_life_Box).f_Probe.f_Health),vi (((mlook h0.f_boxes (.inr a1.f_Id)).getD Z_life_Box).f_Probe.f_Fails),vi (((mlook h0.f_boxes (.inr a1.f_Id)).getD Z_life_Box).f_Probe.f_Began),vi (((mlook h0.f_boxes (.inr a1.f_Id)).getD Z_life_Box).f_Probe.f_Next)],vb ((mlook h0.f_boxes (.inr a1.f_Id)).isSome)]))]) (by kernel_rfl) (by kernel_rfl) (AllP.cons (fun _=>⟨Z_life_Box,.agg [.str (((mlook h0.f_boxes (.inr a1.f_Id)).getD Z_life_Box).f_Spec.f_Name),.str (((mlook h0.f_boxes (.inr a1.f_Id)).getD Z_life_Box).f_Spec.f_Project),.str (((mlook h0.f_boxes (.inr a1.f_Id)).getD Z_life_Box).f_Spec.f_Service),vi (((mlook h0.f_boxes (.inr a1.f_Id)).getD Z_life_Box).f_Spec.f_Number),.str (((mlook h0.f_boxes (.inr a1.f_Id)).getD Z_life_Box).f_Spec.f_Hash),ls (((mlook h0.f_boxes (.inr a1.f_Id)).getD Z_life_Box).f_Spec.f_Nets),ls (((mlook h0.f_boxes (.inr a1.f_Id)).getD Z_life_Box).f_Spec.f_Vols),.str (((mlook h0.f_boxes (.inr a1.f_Id)).getD Z_life_Box).f_Spec.f_Health.f_Test),vi (((mlook h0.f_boxes (.inr a1.f_Id)).getD Z_life_Box).f_Spec.f_Health.f_Every),vi (((mlook h0.f_boxes (.inr a1.f_Id)).getD Z_life_Box).f_Spec.f_Health.f_Start),vi (((mlook h0.f_boxes (.inr a1.f_Id)).getD Z_life_Box).f_Spec.f_Health.f_Retries),vi (((mlook h0.f_boxes (.inr a1.f_Id)).getD Z_life_Box).f_Spec.f_Restart),vi (((mlook h0.f_boxes (.inr a1.f_Id)).getD Z_life_Box).f_Spec.f_Tries),vi (((mlook h0.f_boxes (.inr a1.f_Id)).getD Z_life_Box).f_Id),vi (((mlook h0.f_boxes (.inr a1.f_Id)).getD Z_life_Box).f_State),vi (((mlook h0.f_boxes (.inr a1.f_Id)).getD Z_life_Box).f_Code),vi (((mlook h0.f_boxes (.inr a1.f_Id)).getD Z_life_Box).f_Runs),vi (((mlook h0.f_boxes (.inr a1.f_Id)).getD Z_life_Box).f_Done),vi (((mlook h0.f_boxes (.inr a1.f_Id)).getD Z_life_Box).f_At),vb (((mlook h0.f_boxes (.inr a1.f_Id)).getD Z_life_Box).f_ByHand),vb (((mlook h0.f_boxes (.inr a1.f_Id)).getD Z_life_Box).f_Sick),vi (((mlook h0.f_boxes (.inr a1.f_Id)).getD Z_life_Box).f_Probe.f_Health),vi (((mlook h0.f_boxes (.inr a1.f_Id)).getD Z_life_Box).f_Probe.f_Fails),vi (((mlook h0.f_boxes (.inr a1.f_Id)).getD Z_life_Box).f_Probe.f_Began),vi (((mlook h0.f_boxes (.inr a1.f_Id)).getD Z_life_Box).f_Probe.f_Next)],weaks_eq (ds:=[.str [],.str [],.str [],vi 0,.str [],.val (.slice none 0 0),.val (.slice none 0 0),.str [],vi 0,vi 0,vi 0,vi 0,vi 0,vi 0,vi 0,vi 0,vi 0,vi 0,vi 0,vb false,vb false,vi 0,vi 0,vi 0,vi 0]) (es:=[.str [],.str [],.str [],vi 0,.str [],ls [],ls [],.str [],vi 0,vi 0,vi 0,vi 0,vi 0,vi 0,vi 0,vi 0,vi 0,vi 0,vi 0,vb false,vb false,vi 0,vi 0,vi 0,vi 0]) (by kernel_rfl) (.cons (.refl _) (.cons (.refl _) (.cons (.refl _) (.cons (.refl _) (.cons (.refl _) (.cons (.zero _ _) (.cons (.zero _ _) (.cons (.refl _) (.cons (.refl _) (.cons (.refl _) (.cons (.refl _) (.cons (.refl _) (.cons (.refl _) (.cons (.refl _) (.cons (.refl _) (.cons (.refl _) (.cons (.refl _) (.cons (.refl _) (.cons (.refl _) (.cons (.refl _) (.cons (.refl _) (.cons (.refl _) (.cons (.refl _) (.cons (.refl _) (.cons (.refl _) .nil))))))))))))))))))))))))) (by kernel_rfl),by kernel_rfl,by kernel_rfl⟩) AllP.nil) ?_
 refine To.thenN (Wp.seq (rg [0,3,20] [3,1000000,1010060,1010061,1010062] [(0,.own 1000000 0),(3,.own 3 0),(20,vb (!((mlook h0.f_boxes (.inr a1.f_Id)).isSome)))] ((3,53,(E_life_Box a1))::qf5 1000000 1010060 1010061 1010062 h0) (To.thenN (Wp.cond (b:=(!((mlook h0.f_boxes (.inr a1.f_Id)).isSome))) (by kernel_rfl) (fun hb=>?_) (fun hb=>?_)))))
 ·replace h:=if_t hb h
  refine Wp.seq (rg [4] [1000000,1010060,1010061,1010062] [(4,vb false)] (qf5 1000000 1010060 1010061 1010062 h0) (To.thenN (Wp.ret (To.thenR ?_))))
  cases h
  exact To.doneB hΓ [1000000,1010060,1010061,1010062] (by kernel_rfl) (by kernel_rfl)
 ·replace h:=if_f hb h
  refine Wp.skip (To.thenN (Wp.seq ?_))
  obtain ⟨r1,hr1,h⟩:=bind_of h
  obtain ⟨r2,hr2,h⟩:=bind_of h
  refine Wp.regionO hm hΓ [] [(3,ls r1),(7,ls r2)] [] [0,3,20,21,22,23,24,25,26,27,28,29,30,31,32] [3,1000000,1010060,1010061,1010062] [0,3] [3,1000000,1010060,1010061,1010062] (K':=[(0,.own 1000000 0),(3,.own 3 0)]) (L':=((3,53,(List.set (List.set (E_life_Box a1) 5 (ls r1)) 6 (ls r2)))::qf5 1000000 1010060 1010061 1010062 h0)) (ob:=[(true = true → CX Tryz.prog 64 [ls a1.f_Spec.f_Nets] (ls r1)),(true = true → CX Tryz.prog 64 [ls a1.f_Spec.f_Vols] (ls r2))]) (by kernel_rfl) (by kernel_rfl) (AllP.cons (fun _=>cx (ok_slices_Clone_string_string n a1.f_Spec.f_Nets _ hr1)) (AllP.cons (fun _=>cx (ok_slices_Clone_string_string n a1.f_Spec.f_Vols _ hr2)) AllP.nil)) (To.thenN (Wp.seq (Wp.regionO hm hΓ [] [(7,mc3 (mput h0.f_boxes (.inr a1.f_Id) (S_life_Box.mk (S_api_Spec.mk a1.f_Spec.f_Name a1.f_Spec.f_Project a1.f_Spec.f_Service a1.f_Spec.f_Number a1.f_Spec.f_Hash r1 r2 a1.f_Spec.f_Health a1.f_Spec.f_Restart a1.f_Spec.f_Tries) a1.f_Id a1.f_State a1.f_Code a1.f_Runs a1.f_Done a1.f_At a1.f_ByHand a1.f_Sick a1.f_Probe)))] [] [0,3,33,34,35,36,37,38,39] [3,1000000,1010060,1010061,1010062] [] [1000000,1010060,1010061,1010062] (K':=[]) (L':=[(1000000,109,[.mp 1010060,.mp 1010061,.mp 1010062,vi h0.f_last]),(1010060,105,[mc3 (mput h0.f_boxes (.inr a1.f_Id) (S_life_Box.mk (S_api_Spec.mk a1.f_Spec.f_Name a1.f_Spec.f_Project a1.f_Spec.f_Service a1.f_Spec.f_Number a1.f_Spec.f_Hash r1 r2 a1.f_Spec.f_Health a1.f_Spec.f_Restart a1.f_Spec.f_Tries) a1.f_Id a1.f_State a1.f_Code a1.f_Runs a1.f_Done a1.f_At a1.f_ByHand a1.f_Sick a1.f_Probe))]),(1010061,107,[mc4 h0.f_nets]),(1010062,107,[mc4 h0.f_vols])]) (ob:=[(∃ l':List (MK × S_life_Box),(mc3 (mput h0.f_boxes (.inr a1.f_Id) (S_life_Box.mk (S_api_Spec.mk a1.f_Spec.f_Name a1.f_Spec.f_Project a1.f_Spec.f_Service a1.f_Spec.f_Number a1.f_Spec.f_Hash r1 r2 a1.f_Spec.f_Health a1.f_Spec.f_Restart a1.f_Spec.f_Tries) a1.f_Id a1.f_State a1.f_Code a1.f_Runs a1.f_Done a1.f_At a1.f_ByHand a1.f_Sick a1.f_Probe)):D) = mc3 l' ∧ MsetOb E_life_Box h0.f_boxes (.inr a1.f_Id) [.str a1.f_Spec.f_Name,.str a1.f_Spec.f_Project,.str a1.f_Spec.f_Service,vi a1.f_Spec.f_Number,.str a1.f_Spec.f_Hash,ls r1,ls r2,.str a1.f_Spec.f_Health.f_Test,vi a1.f_Spec.f_Health.f_Every,vi a1.f_Spec.f_Health.f_Start,vi a1.f_Spec.f_Health.f_Retries,vi a1.f_Spec.f_Restart,vi a1.f_Spec.f_Tries,vi a1.f_Id,vi a1.f_State,vi a1.f_Code,vi a1.f_Runs,vi a1.f_Done,vi a1.f_At,vb a1.f_ByHand,vb a1.f_Sick,vi a1.f_Probe.f_Health,vi a1.f_Probe.f_Fails,vi a1.f_Probe.f_Began,vi a1.f_Probe.f_Next] l')]) (by kernel_rfl) (by kernel_rfl) (AllP.cons (⟨_,rfl,(S_life_Box.mk (S_api_Spec.mk a1.f_Spec.f_Name a1.f_Spec.f_Project a1.f_Spec.f_Service a1.f_Spec.f_Number a1.f_Spec.f_Hash r1 r2 a1.f_Spec.f_Health a1.f_Spec.f_Restart a1.f_Spec.f_Tries) a1.f_Id a1.f_State a1.f_Code a1.f_Runs a1.f_Done a1.f_At a1.f_ByHand a1.f_Sick a1.f_Probe),Weaks.of_eq (by kernel_rfl),rfl⟩) AllP.nil) (To.thenN (Wp.seq (rg [4] [1000000,1010060,1010061,1010062] [(4,vb true)] [(1000000,109,[.mp 1010060,.mp 1010061,.mp 1010062,vi h0.f_last]),(1010060,105,[mc3 (mput h0.f_boxes (.inr a1.f_Id) (S_life_Box.mk (S_api_Spec.mk a1.f_Spec.f_Name a1.f_Spec.f_Project a1.f_Spec.f_Service a1.f_Spec.f_Number a1.f_Spec.f_Hash r1 r2 a1.f_Spec.f_Health a1.f_Spec.f_Restart a1.f_Spec.f_Tries) a1.f_Id a1.f_State a1.f_Code a1.f_Runs a1.f_Done a1.f_At a1.f_ByHand a1.f_Sick a1.f_Probe))]),(1010061,107,[mc4 h0.f_nets]),(1010062,107,[mc4 h0.f_vols])] (To.thenN (Wp.ret ?_))))))))
  cases h
  exact To.doneB hΓ [1000000,1010060,1010061,1010062] (by kernel_rfl) (by kernel_rfl)
end Go.Proofs.YtaecmkldkljioaaGreat.M
