import Derived.Test.YtaecmkldkljioaaGreatQM35c
set_option linter.all false
namespace Go.Proofs.YtaecmkldkljioaaGreat.M
open Go.RowKit Go.Proofs.YtaecmkldkljioaaGreat.RX
set_option maxRecDepth 100000
def ref02_Same_l1 (n:Nat) (v0:List (List UInt8)) (v1:List (List UInt8)):Nat → Int → Option (Sum (Unit) (Bool))
 | 0,_=>none
 | k + 1,v5=>if (decide (v5 < (List.length v0:Int))) = true then (if (decide (0 ≤ v5 ∧ v5 < (List.length v0:Int))) = true then (if (decide (0 ≤ v5 ∧ v5 < (List.length v1:Int))) = true then (if (!(((v0)[Int.toNat v5]?.getD []) == ((v1)[Int.toNat v5]?.getD []))) = true then (some (.inr false))
 else (ref02_Same_l1 n v0 v1 k (IntKind.wrap .i64 (v5 + 1)))) else none) else none)
 else (some (.inl ()))
theorem ok_ref02_Same_l1 (n:Nat) (v0:List (List UInt8)) (v1:List (List UInt8)) {F0:Fz} {w0:Pt Tryz.prog} {Q:Exit → Act → World → Prop} (k:Nat):∀ (v5:Int) (o:Sum (Unit) (Bool)),ref02_Same_l1 n v0 v1 k v5 = some o → (Sum.elim (fun s=>To 26 F0 w0 [] [] (.exit 0) Q) (fun s=>To 26 F0 w0 [(4,vb s)] [] .ret Q)) o → WL Tryz.prog 26 F0 w0 [(0,ls v0),(1,ls v1),(5,vi v5)] [] (cI (cI (cB (cA (cB (cB (cF Tryz.f94))))))) Q:=by
 induction k with
 | zero=>intro v5 o h; cases h
 | succ k ih =>
  intro v5 o h hQ
  rw [ref02_Same_l1] at h
  refine WL.round (Wp.seq (Wp.seq (rg [0,1,5,14] [] [(0,ls v0),(1,ls v1),(5,vi v5),(14,vb (decide (v5 < (List.length v0:Int))))] [] (To.thenN (cn h (fun h=>?_) (fun h=>?_))))))
  ·refine Wp.skip (To.thenN (Wp.seq (Wp.block (Wp.seq ?_))))
   obtain ⟨hc1,h⟩:=chk_of h
   obtain ⟨hc2,h⟩:=chk_of h
   refine Wp.regionD hm hΓ [] [0,1,5,25] [] (K':=[(0,ls v0),(1,ls v1),(5,vi v5),(25,vb (!(((v0)[Int.toNat v5]?.getD []) == ((v1)[Int.toNat v5]?.getD []))))]) (L':=[]) (ob:=[(decide (0 ≤ v5 ∧ v5 < (List.length v0:Int))) = true,(decide (0 ≤ v5 ∧ v5 < (List.length v1:Int))) = true]) (by kernel_rfl) (AllP.cons hc1 (AllP.cons hc2 AllP.nil)) (To.thenN (cn h (fun h=>?_) (fun h=>?_)))
   ·refine Wp.seq (rg [4] [] [(4,vb false)] [] (To.thenN (Wp.ret (To.blockR (To.thenR (To.thenR ?_))))))
    cases h
    exact hQ
   ·refine Wp.skip (To.blockN (To.thenN (rg [0,1,5] [] [(0,ls v0),(1,ls v1),(ex2 v5)] [] (kt [0,1,5] [] [(0,ls v0),(1,ls v1),(ex2 v5)] [] (To.again ?_)))))
    exact ih (IntKind.wrap .i64 (v5 + 1)) _ h hQ
  ·refine Wp.exit (To.thenX (To.thenX (kt [] [] [] [] ?_)))
   cases h
   exact hQ
def ref02_Same (n:Nat) (a0:List (List UInt8)) (a1:List (List UInt8)):Option (Bool) :=
 if ((List.length a0:Int) != (List.length a1:Int)) = true then some false
 else ((ref02_Same_l1 n a0 a1 n 0).bind fun o1 =>
 (Sum.elim (fun o1=>some true) (fun o1=>some o1)) o1)
theorem ok_ref02_Same (n:Nat) (a0:List (List UInt8)) (a1:List (List UInt8)) (r:Bool) (h:ref02_Same n a0 a1 = some r):CallsX Tryz.prog 94 [ls a0,ls a1] (vb r):=by
 unfold ref02_Same at h
 refine xo Tryz.f94 rfl fun F0 w0 _=>?_
 refine Wp.seq (rg [0,1] [] [(0,ls a0),(1,ls a1)] [] (To.thenN (Wp.seq (Wp.seq (rg [0,1,10] [] [(0,ls a0),(1,ls a1),(10,vb ((List.length a0:Int) != (List.length a1:Int)))] [] (To.thenN (cn h (fun h=>?_) (fun h=>?_))))))))
 ·refine Wp.seq (rg [4] [] [(4,vb false)] [] (To.thenN (Wp.ret (To.thenR ?_))))
  cases h
  exact To.done hΓ (by kernel_rfl)
 ·refine Wp.skip (To.thenN (Wp.seq (Wp.seq (rg [0,1,5] [] [(0,ls a0),(1,ls a1),(5,vi 0)] [] (To.thenN (Wp.block ?_))))))
  obtain ⟨o1,ho1,h⟩:=bind_of h
  refine kw [0,1,5] [] [(0,ls a0),(1,ls a1),(5,vi 0)] [] (Wp.loopL (ok_ref02_Same_l1 n a0 a1 n 0 o1 ho1 ?_))
  rcases o1 with o1 | o1
  ·replace h:=sum_l h
   refine To.blockX (To.thenN (Wp.seq (rg [4] [] [(4,vb true)] [] (To.thenN (Wp.ret ?_)))))
   cases h
   exact To.done hΓ (by kernel_rfl)
  ·replace h:=sum_r h
   refine To.blockR (To.thenR ?_)
   cases h
   exact To.done hΓ (by kernel_rfl)
def ref27_Alike (n:Nat) (a0:S_api_Spec) (a1:S_api_Spec):Option (Bool) :=
 (ref02_Same n a0.f_Nets a1.f_Nets).bind fun r1 =>
 ((if ((!r1) == false) = true then ref02_Same n a0.f_Vols a1.f_Vols else some false)).bind fun r2 =>
 if (bif (!r1) then true else (!r2)) = true then some false
 else (lett ((bif (bif (bif (bif (bif (bif (bif (a0.f_Name == a1.f_Name) then (a0.f_Project == a1.f_Project) else false) then (a0.f_Service == a1.f_Service) else false) then (a0.f_Number == a1.f_Number) else false) then (a0.f_Hash == a1.f_Hash) else false) then ((a0.f_Health.f_Test == a1.f_Health.f_Test) && ((a0.f_Health.f_Every == a1.f_Health.f_Every) && ((a0.f_Health.f_Start == a1.f_Health.f_Start) && (a0.f_Health.f_Retries == a1.f_Health.f_Retries)))) else false) then (a0.f_Restart == a1.f_Restart) else false) then (a0.f_Tries == a1.f_Tries) else false):Bool) fun x3 =>
 some x3)
theorem ok_ref27_Alike (n:Nat) (a0:S_api_Spec) (a1:S_api_Spec) (r:Bool) (h:ref27_Alike n a0 a1 = some r):CallsX Tryz.prog 60 [.agg (qc7 a0),.agg (qc7 a1)] (vb r):=by
 unfold ref27_Alike at h
 refine xo Tryz.f60 rfl fun F0 w0 _=>?_
 refine Wp.seq (rg [2,3] [2,3] [(2,.own 2 0),(3,.own 3 0)] [(2,38,(E_api_Spec a0)),(3,38,(E_api_Spec a1))] (To.thenN (Wp.seq (Wp.seq ?_))))
 obtain ⟨r1,hr1,h⟩:=bind_of h
 obtain ⟨r2,hr2,h⟩:=bind_of h
 refine rr [] [(4,vb r1),(11,vb r2)] [] [2,3,18] [2,3] [(2,.own 2 0),(3,.own 3 0),(18,vb (bif (!r1) then true else (!r2)))] [(2,38,(E_api_Spec a0)),(3,38,(E_api_Spec a1))] [_,(((!r1) == false) = true → CX Tryz.prog 94 [ls a0.f_Vols,ls a1.f_Vols] (vb r2))] (AllP.cons (c1 (ok_ref02_Same n a0.f_Nets a1.f_Nets _ hr1)) (AllP.cons (fun hg=>cx (ok_ref02_Same n a0.f_Vols a1.f_Vols _ (if_t hg hr2))) AllP.nil)) (To.thenN (cn h (fun h=>?_) (fun h=>?_)))
 ·refine Wp.seq (rg [4] [] [(4,vb false)] [] (To.thenN (Wp.ret (To.thenR ?_))))
  cases h
  exact To.done hΓ (by kernel_rfl)
 ·refine Wp.skip (To.thenN (Wp.seq ?_))
  obtain ⟨x3,hx3,h⟩:=lett_of h
  refine rg [4] [] [(4,vb (bif (bif (bif (bif (bif (bif (bif (a0.f_Name == a1.f_Name) then (a0.f_Project == a1.f_Project) else false) then (a0.f_Service == a1.f_Service) else false) then (a0.f_Number == a1.f_Number) else false) then (a0.f_Hash == a1.f_Hash) else false) then ((a0.f_Health.f_Test == a1.f_Health.f_Test) && ((a0.f_Health.f_Every == a1.f_Health.f_Every) && ((a0.f_Health.f_Start == a1.f_Health.f_Start) && (a0.f_Health.f_Retries == a1.f_Health.f_Retries)))) else false) then (a0.f_Restart == a1.f_Restart) else false) then (a0.f_Tries == a1.f_Tries) else false))] [] (To.eq (K':=[(4,vb x3)]) (L':=[]) (by cases hx3; rfl) (by cases hx3; rfl) (To.thenN (Wp.ret ?_)))
  cases h
  exact To.done hΓ (by kernel_rfl)
def law33_SameBoxes_l1 (n:Nat) (v0:List (S_api_Container)) (v1:List (S_api_Container)):Nat → Int → Option (Sum (Unit) (Bool))
 | 0,_=>none
 | k + 1,v5=>if (decide (v5 < (List.length v0:Int))) = true then (if (decide (0 ≤ v5 ∧ v5 < (List.length v0:Int))) = true then (if (decide (0 ≤ v5 ∧ v5 < (List.length v1:Int))) = true then (((if ((bif (bif (bif (bif ((((v0)[Int.toNat v5]?.getD Z_api_Container).f_Id) != (((v1)[Int.toNat v5]?.getD Z_api_Container).f_Id)) then true else ((((v0)[Int.toNat v5]?.getD Z_api_Container).f_State) != (((v1)[Int.toNat v5]?.getD Z_api_Container).f_State))) then true else ((((v0)[Int.toNat v5]?.getD Z_api_Container).f_Code) != (((v1)[Int.toNat v5]?.getD Z_api_Container).f_Code))) then true else ((((v0)[Int.toNat v5]?.getD Z_api_Container).f_Health) != (((v1)[Int.toNat v5]?.getD Z_api_Container).f_Health))) then true else ((((v0)[Int.toNat v5]?.getD Z_api_Container).f_Runs) != (((v1)[Int.toNat v5]?.getD Z_api_Container).f_Runs))) == false) = true then ref27_Alike n (((v0)[Int.toNat v5]?.getD Z_api_Container).f_Spec) (((v1)[Int.toNat v5]?.getD Z_api_Container).f_Spec) else some false)).bind fun r1 =>
 lett ((bif (bif (bif (bif (bif ((((v0)[Int.toNat v5]?.getD Z_api_Container).f_Id) != (((v1)[Int.toNat v5]?.getD Z_api_Container).f_Id)) then true else ((((v0)[Int.toNat v5]?.getD Z_api_Container).f_State) != (((v1)[Int.toNat v5]?.getD Z_api_Container).f_State))) then true else ((((v0)[Int.toNat v5]?.getD Z_api_Container).f_Code) != (((v1)[Int.toNat v5]?.getD Z_api_Container).f_Code))) then true else ((((v0)[Int.toNat v5]?.getD Z_api_Container).f_Health) != (((v1)[Int.toNat v5]?.getD Z_api_Container).f_Health))) then true else ((((v0)[Int.toNat v5]?.getD Z_api_Container).f_Runs) != (((v1)[Int.toNat v5]?.getD Z_api_Container).f_Runs))) then true else (!r1)):Bool) fun x2 =>
 if x2 = true then (some (.inr false))
 else (law33_SameBoxes_l1 n v0 v1 k (IntKind.wrap .i64 (v5 + 1)))) else none) else none)
 else (some (.inl ()))
abbrev ex15 (x0:List (S_api_Container)) (x1:Int):=((x0)[Int.toNat x1]?.getD Z_api_Container)
abbrev ex16 (x0:Int) (x1:List (S_api_Container)):=(decide (0 ≤ x0 ∧ x0 < (List.length x1:Int)))
abbrev ex38 (x0:List (S_api_Container)) (x1:Int):=((ex15 x0 x1).f_Spec.f_Health.f_Retries)
abbrev ex39 (x0:List (S_api_Container)) (x1:Int):=((ex15 x0 x1).f_Spec.f_Health.f_Every)
abbrev ex40 (x0:List (S_api_Container)) (x1:Int):=((ex15 x0 x1).f_Spec.f_Health.f_Start)
abbrev ex41 (x0:List (S_api_Container)) (x1:Int):=((ex15 x0 x1).f_Spec.f_Health.f_Test)
abbrev ex42 (x0:List (S_api_Container)) (x1:Int):=((ex15 x0 x1).f_Spec.f_Project)
abbrev ex43 (x0:List (S_api_Container)) (x1:Int):=((ex15 x0 x1).f_Spec.f_Service)
abbrev ex44 (x0:List (S_api_Container)) (x1:Int):=((ex15 x0 x1).f_Spec.f_Restart)
abbrev ex45 (x0:List (S_api_Container)) (x1:Int):=((ex15 x0 x1).f_Spec.f_Number)
abbrev ex46 (x0:List (S_api_Container)) (x1:Int):Nat × Nat × List D:=(7,120,(E_api_Container (ex15 x0 x1)))
theorem ok_law33_SameBoxes_l1 (n:Nat) (v0:List (S_api_Container)) (v1:List (S_api_Container)) {F0:Fz} {w0:Pt Tryz.prog} {Q:Exit → Act → World → Prop} (k:Nat):∀ (v5:Int) (o:Sum (Unit) (Bool)),law33_SameBoxes_l1 n v0 v1 k v5 = some o → (Sum.elim (fun s=>To 68 F0 w0 [] [] (.exit 0) Q) (fun s=>To 68 F0 w0 [(4,vb s)] [] .ret Q)) o → WL Tryz.prog 68 F0 w0 [(0,rs19 v0),(1,rs19 v1),(5,vi v5)] [] (cI (cI (cB (cA (cB (cB (cF Tryz.f14))))))) Q:=by
 induction k with
 | zero=>intro v5 o h; cases h
 | succ k ih =>
  intro v5 o h hQ
  rw [law33_SameBoxes_l1] at h
  refine WL.round (Wp.seq (Wp.seq (rg [0,1,5,16] [] [(0,rs19 v0),(1,rs19 v1),(5,vi v5),(16,vb (decide (v5 < (List.length v0:Int))))] [] (To.thenN (cn h (fun h=>?_) (fun h=>?_))))))
  ·refine Wp.skip (To.thenN (Wp.seq (Wp.block (Wp.seq ?_))))
   obtain ⟨hc3,h⟩:=chk_of h
   obtain ⟨hc4,h⟩:=chk_of h
   refine Wp.regionD hm hΓ [] [0,1,5,6,7] [6,7] (K':=[(0,rs19 v0),(1,rs19 v1),(5,vi v5),(6,.own 6 0),(7,.own 7 0)]) (L':=[(6,120,(E_api_Container (ex15 v0 v5))),(ex46 v1 v5)]) (ob:=[(ex16 v5 v0) = true,(ex16 v5 v1) = true]) (by kernel_rfl) (AllP.cons hc3 (AllP.cons hc4 AllP.nil)) (To.thenN (Wp.seq ?_))
   obtain ⟨r1,hr1,h⟩:=bind_of h
   obtain ⟨x2,hx2,h⟩:=lett_of h
   refine rr [] [(38,vb r1)] [] [0,1,5,67] [] [(0,rs19 v0),(1,rs19 v1),(5,vi v5),(67,vb (bif (bif (bif (bif (bif (((ex15 v0 v5).f_Id) != ((ex15 v1 v5).f_Id)) then true else (((ex15 v0 v5).f_State) != ((ex15 v1 v5).f_State))) then true else (((ex15 v0 v5).f_Code) != ((ex15 v1 v5).f_Code))) then true else (((ex15 v0 v5).f_Health) != ((ex15 v1 v5).f_Health))) then true else (((ex15 v0 v5).f_Runs) != ((ex15 v1 v5).f_Runs))) then true else (!r1)))] [] [(((bif (bif (bif (bif (((ex15 v0 v5).f_Id) != ((ex15 v1 v5).f_Id)) then true else (((ex15 v0 v5).f_State) != ((ex15 v1 v5).f_State))) then true else (((ex15 v0 v5).f_Code) != ((ex15 v1 v5).f_Code))) then true else (((ex15 v0 v5).f_Health) != ((ex15 v1 v5).f_Health))) then true else (((ex15 v0 v5).f_Runs) != ((ex15 v1 v5).f_Runs))) == false) = true → CX Tryz.prog 60 [.agg [.str ((ex15 v0 v5).f_Spec.f_Name),.str (ex42 v0 v5),.str (ex43 v0 v5),vi (ex45 v0 v5),.str ((ex15 v0 v5).f_Spec.f_Hash),ls ((ex15 v0 v5).f_Spec.f_Nets),ls ((ex15 v0 v5).f_Spec.f_Vols),.str (ex41 v0 v5),vi (ex39 v0 v5),vi (ex40 v0 v5),vi (ex38 v0 v5),vi (ex44 v0 v5),vi ((ex15 v0 v5).f_Spec.f_Tries)],.agg [.str ((ex15 v1 v5).f_Spec.f_Name),.str (ex42 v1 v5),.str (ex43 v1 v5),vi (ex45 v1 v5),.str ((ex15 v1 v5).f_Spec.f_Hash),ls ((ex15 v1 v5).f_Spec.f_Nets),ls ((ex15 v1 v5).f_Spec.f_Vols),.str (ex41 v1 v5),vi (ex39 v1 v5),vi (ex40 v1 v5),vi (ex38 v1 v5),vi (ex44 v1 v5),vi ((ex15 v1 v5).f_Spec.f_Tries)]] (vb r1))] (AllP.cons (fun hg=>cx (ok_ref27_Alike n ((ex15 v0 v5).f_Spec) ((ex15 v1 v5).f_Spec) _ (if_t hg hr1))) AllP.nil) (To.eq (K':=[(0,rs19 v0),(1,rs19 v1),(5,vi v5),(67,vb x2)]) (L':=[]) (by cases hx2; rfl) (by cases hx2; rfl) (To.thenN (cn h (fun h=>?_) (fun h=>?_))))
   ·refine Wp.seq (rg [4] [] [(4,vb false)] [] (To.thenN (Wp.ret (To.blockR (To.thenR (To.thenR ?_))))))
    cases h
    exact hQ
   ·refine Wp.skip (To.blockN (To.thenN (rg [0,1,5] [] [(0,rs19 v0),(1,rs19 v1),(ex2 v5)] [] (kt [0,1,5] [] [(0,rs19 v0),(1,rs19 v1),(ex2 v5)] [] (To.again ?_)))))
    exact ih (IntKind.wrap .i64 (v5 + 1)) _ h hQ
  ·refine Wp.exit (To.thenX (To.thenX (kt [] [] [] [] ?_)))
   cases h
   exact hQ
def law33_SameBoxes (n:Nat) (a0:List (S_api_Container)) (a1:List (S_api_Container)):Option (Bool) :=
 if ((List.length a0:Int) != (List.length a1:Int)) = true then some false
 else ((law33_SameBoxes_l1 n a0 a1 n 0).bind fun o1 =>
 (Sum.elim (fun o1=>some true) (fun o1=>some o1)) o1)
theorem ok_law33_SameBoxes (n:Nat) (a0:List (S_api_Container)) (a1:List (S_api_Container)) (r:Bool) (h:law33_SameBoxes n a0 a1 = some r):CallsX Tryz.prog 14 [rs19 a0,rs19 a1] (vb r):=by
 unfold law33_SameBoxes at h
 refine xo Tryz.f14 rfl fun F0 w0 _=>?_
 refine Wp.seq (rg [0,1] [] [(0,rs19 a0),(1,rs19 a1)] [] (To.thenN (Wp.seq (Wp.seq (rg [0,1,12] [] [(0,rs19 a0),(1,rs19 a1),(12,vb ((List.length a0:Int) != (List.length a1:Int)))] [] (To.thenN (cn h (fun h=>?_) (fun h=>?_))))))))
 ·refine Wp.seq (rg [4] [] [(4,vb false)] [] (To.thenN (Wp.ret (To.thenR ?_))))
  cases h
  exact To.done hΓ (by kernel_rfl)
 ·refine Wp.skip (To.thenN (Wp.seq (Wp.seq (rg [0,1,5] [] [(0,rs19 a0),(1,rs19 a1),(5,vi 0)] [] (To.thenN (Wp.block ?_))))))
  obtain ⟨o1,ho1,h⟩:=bind_of h
  refine kw [0,1,5] [] [(0,rs19 a0),(1,rs19 a1),(5,vi 0)] [] (Wp.loopL (ok_law33_SameBoxes_l1 n a0 a1 n 0 o1 ho1 ?_))
  rcases o1 with o1 | o1
  ·replace h:=sum_l h
   refine To.blockX (To.thenN (Wp.seq (rg [4] [] [(4,vb true)] [] (To.thenN (Wp.ret ?_)))))
   cases h
   exact To.done hΓ (by kernel_rfl)
  ·replace h:=sum_r h
   refine To.blockR (To.thenR ?_)
   cases h
   exact To.done hΓ (by kernel_rfl)
def store_shelf_list__m0_l1 (n:Nat) (v8:List (List UInt8)) (v9:Int) (b1000000:List (MK × S_api_Kept)):Nat → (List (S_api_Kept)) → Int → Option ((List (S_api_Kept)))
 | 0,_,_=>none
 | k + 1,v3,v10=>if (decide (v10 < v9)) = true then (if (decide (0 ≤ v10 ∧ v10 < (List.length v8:Int))) = true then (if (decide ((List.length v3 + List.length ([(S_api_Kept.mk (((mlook b1000000 (.inl ((v8)[Int.toNat v10]?.getD []))).getD (S_api_Kept.mk [] [])).f_Name) (((mlook b1000000 (.inl ((v8)[Int.toNat v10]?.getD []))).getD (S_api_Kept.mk [] [])).f_Project))]:List (S_api_Kept))) * (32 + 1) ≤ limit)) = true then (lett ((v3 ++ ([(S_api_Kept.mk (((mlook b1000000 (.inl ((v8)[Int.toNat v10]?.getD []))).getD (S_api_Kept.mk [] [])).f_Name) (((mlook b1000000 (.inl ((v8)[Int.toNat v10]?.getD []))).getD (S_api_Kept.mk [] [])).f_Project))]:List (S_api_Kept))):List (S_api_Kept)) fun x2 =>
 store_shelf_list__m0_l1 n v8 v9 b1000000 k x2 (IntKind.wrap .i64 (v10 + 1))) else none) else none)
 else some v3
abbrev rc21 (l:List (S_api_Kept)):D:=.rowc false (α:=S_api_Kept) zx2 E_api_Kept l
abbrev rs22 (l:List (S_api_Kept)):D:=.recs (α:=S_api_Kept) zx2 E_api_Kept l
abbrev ex17 (x0:List (MK × S_api_Kept)) (x1:List (List UInt8)) (x2:Int):=(S_api_Kept.mk (((mlook x0 (.inl ((x1)[Int.toNat x2]?.getD []))).getD zx2).f_Name) (((mlook x0 (.inl ((x1)[Int.toNat x2]?.getD []))).getD zx2).f_Project))
abbrev ex18 (x0:Int):Nat × D:=(10,vi (IntKind.wrap .i64 (x0 + 1)))
abbrev ex47 (x0:List (MK × S_api_Kept)) (x1:List (List UInt8)) (x2:Int):=((mlook x0 (.inl ((x1)[Int.toNat x2]?.getD []))).getD zx2)
theorem ok_store_shelf_list__m0_l1 (n:Nat) (v8:List (List UInt8)) (v9:Int) (b1000000:List (MK × S_api_Kept)) {F0:Fz} {w0:Pt Tryz.prog} {Q:Exit → Act → World → Prop} (k:Nat):∀ (v3:List (S_api_Kept)) (v10:Int) (o:(List (S_api_Kept))),store_shelf_list__m0_l1 n v8 v9 b1000000 k v3 v10 = some o → To 22 F0 w0 [(3,.row 1003)] [(1003,134,[rc21 o]),(1000000,107,[mc4 b1000000])] (.exit 0) Q → WL Tryz.prog 22 F0 w0 [(0,.mp 1000000),(3,.row 1003),(8,ls v8),(9,vi v9),(10,vi v10)] [(1003,134,[rc21 v3]),(1000000,107,[mc4 b1000000])] (cI (cI (cB (cA (cB (cB (cF Tryz.f66))))))) Q:=by
 induction k with
 | zero=>intro v3 v10 o h; cases h
 | succ k ih =>
  intro v3 v10 o h hQ
  rw [store_shelf_list__m0_l1] at h
  refine WL.round (Wp.seq (rg [0,3,8,9,10,11] [1003,1000000] [(0,.mp 1000000),(3,.row 1003),(8,ls v8),(9,vi v9),(10,vi v10),(11,vb (decide (v10 < v9)))] [(1003,134,[rc21 v3]),(1000000,107,[mc4 b1000000])] (To.thenN (Wp.seq (cn h (fun h=>?_) (fun h=>?_))))))
  ·refine Wp.skip (To.thenN (Wp.seq (Wp.block (Wp.seq ?_))))
   obtain ⟨hc4,h⟩:=chk_of h
   refine r0 [0,3,5,8,9,10] [1003,1000000] [(0,.mp 1000000),(3,.row 1003),(5,.str ((v8)[Int.toNat v10]?.getD [])),(8,ls v8),(9,vi v9),(10,vi v10)] [(1003,134,[rc21 v3]),(1000000,107,[mc4 b1000000])] (AllP.cons hc4 AllP.nil) (To.thenN ?_)
   obtain ⟨hc3,h⟩:=chk_of h
   obtain ⟨x2,hx2,h⟩:=lett_of h
   refine rr [] [(3,.agg [.str ((ex47 b1000000 v8 v10).f_Name),.str ((ex47 b1000000 v8 v10).f_Project)]),(4,rs22 ([(ex17 b1000000 v8 v10)])),(5,rs22 (v3 ++ ([(ex17 b1000000 v8 v10)]:List (S_api_Kept))))] [] [0,3,8,9,10] [19,1000000] [(0,.mp 1000000),(3,.row 19),(8,ls v8),(9,vi v9),(10,vi v10)] [(19,134,[rc21 (v3 ++ ([(ex17 b1000000 v8 v10)]:List (S_api_Kept)))]),(1000000,107,[mc4 b1000000])] [(true = true → LookOb true E_api_Kept b1000000 (.inl ((v8)[Int.toNat v10]?.getD [])) [.str [],.str []] (.agg [.str ((ex47 b1000000 v8 v10).f_Name),.str ((ex47 b1000000 v8 v10).f_Project)])),(MkOb 2 [.str ((ex47 b1000000 v8 v10).f_Name),.str ((ex47 b1000000 v8 v10).f_Project)] 1 (rs22 ([(ex17 b1000000 v8 v10)])) ∧ GoodR (rs22 ([(ex17 b1000000 v8 v10)]))),_,(AppOb zx2 E_api_Kept v3 (List.flatMap E_api_Kept ([(ex17 b1000000 v8 v10)]:List (S_api_Kept))) (List.length ([(ex17 b1000000 v8 v10)]:List (S_api_Kept))) (rs22 (v3 ++ ([(ex17 b1000000 v8 v10)]:List (S_api_Kept)))) ∧ GoodR (rs22 (v3 ++ ([(ex17 b1000000 v8 v10)]:List (S_api_Kept)))))] (AllP.cons (fun _=>⟨zx2,Weaks.of_eq (by kernel_rfl),by kernel_rfl⟩) (AllP.cons (mkOb (by kernel_rfl) rfl (by kernel_rfl) (good_E_api_Kept _)) (AllP.cons hc3 (AllP.cons (appOb rfl rfl (good_E_api_Kept _)) AllP.nil)))) ?_
   refine To.eq (K':=[(0,.mp 1000000),(3,.row 19),(8,ls v8),(9,vi v9),(10,vi v10)]) (L':=[(19,134,[rc21 x2]),(1000000,107,[mc4 b1000000])]) (by cases hx2; rfl) (by cases hx2; rfl) (To.blockN (To.thenN (rg [0,3,8,9,10] [19,1000000] [(0,.mp 1000000),(3,.row 19),(8,ls v8),(9,vi v9),(ex18 v10)] [(19,134,[rc21 x2]),(1000000,107,[mc4 b1000000])] (nt [0,3,8,9,10] [19,1000000] [(19,1003)] [0,3,8,9,10] [1003,1000000] [(0,.mp 1000000),(3,.row 1003),(8,ls v8),(9,vi v9),(ex18 v10)] [(1003,134,[rc21 x2]),(1000000,107,[mc4 b1000000])] (To.again ?_)))))
   exact ih x2 (IntKind.wrap .i64 (v10 + 1)) _ h hQ
  ·refine Wp.exit (To.thenX (To.thenX (kt [3] [1003,1000000] [(3,.row 1003)] [(1003,134,[rc21 v3]),(1000000,107,[mc4 b1000000])] ?_)))
   cases h
   exact hQ
def store_shelf_list__m0 (n:Nat) (h0:List (MK × S_api_Kept)):Option ((List (S_api_Kept)) × (List (MK × S_api_Kept))) :=
 if (keysOkS h0) = true then ((store_shelf_list__m0_l1 n (keysS h0) (List.length (keysS h0):Int) h0 n ([]:List (S_api_Kept)) 0).bind fun o2 =>
 some (o2,h0)) else none
abbrev rc23 (l:List (S_api_Kept)):D:=.rowc true (α:=S_api_Kept) zx2 E_api_Kept l
theorem ok_store_shelf_list__m0 (n:Nat) (h0:List (MK × S_api_Kept)) (r:(List (S_api_Kept)) × (List (MK × S_api_Kept))) (h:store_shelf_list__m0 n h0 = some r):CallsB Tryz.prog 66 [.mp 1000000] [(1000000,107,[mc4 h0])] (rs22 r.1) [(1000000,107,[mc4 r.2])]:=by
 unfold store_shelf_list__m0 at h
 refine bo Tryz.f66 rfl fun F0 w0=>?_
 refine Wp.seq (rg [0] [1000000] [(0,.mp 1000000)] [(1000000,107,[mc4 h0])] (To.thenN (Wp.seq (rg [0,3] [1000000] [(0,.mp 1000000),(3,.val (.slice none 0 0))] [(1000000,107,[mc4 h0])] (To.thenN (Wp.seq (Wp.seq ?_)))))))
 obtain ⟨u1,h⟩:=chk_of h
 refine rr [] [] [(1,⟨[(1000000,1000000)],[(1,7),(1000000,1000000)],[.mp 1000000],[(1000000,107,[mc4 h0])],.fn 128 [.own 1 0],[(1000000,107,[mc4 h0]),(1,107,[.mp 1000000])]⟩),(2,⟨[(1000000,1000000),(1000001,7)],[(1000000,1000000),(1000001,7)],[.fn 128 [.own 1000001 0]],[(1000000,107,[mc4 h0]),(1000001,107,[.mp 1000000])],ls (keysS h0),[(1000000,107,[mc4 h0]),(1000001,107,[.mp 1000000])]⟩)] [0,3,8,9,10] [1000000] [(0,.mp 1000000),(3,.val (.slice none 0 0)),(8,ls (keysS h0)),(9,vi (List.length (keysS h0):Int)),(10,vi 0)] [(1000000,107,[mc4 h0])] [CbOb (CallsB Tryz.prog) 99 [.mp 1000000] [some (107,[mc4 h0])] ⟨[(1000000,1000000)],[(1,7),(1000000,1000000)],[.mp 1000000],[(1000000,107,[mc4 h0])],.fn 128 [.own 1 0],[(1000000,107,[mc4 h0]),(1,107,[.mp 1000000])]⟩,CbOb (CallsB Tryz.prog) 98 [.fn 128 [.own 7 0]] [some (107,[mc4 h0]),some (107,[.mp 1000000])] ⟨[(1000000,1000000),(1000001,7)],[(1000000,1000000),(1000001,7)],[.fn 128 [.own 1000001 0]],[(1000000,107,[mc4 h0]),(1000001,107,[.mp 1000000])],ls (keysS h0),[(1000000,107,[mc4 h0]),(1000001,107,[.mp 1000000])]⟩] (AllP.cons (⟨Sh.keys99,by kernel_rfl,by kernel_rfl⟩) (AllP.cons (⟨Sh.sortedKeys98_128 u1,by kernel_rfl,by kernel_rfl⟩) AllP.nil)) ?_
 refine To.thenN (Wp.block ?_)
 obtain ⟨o2,ho2,h⟩:=bind_of h
 refine kw [0,3,8,9,10] [1000000] [(0,.mp 1000000),(3,.val (.slice none 0 0)),(8,ls (keysS h0)),(9,vi (List.length (keysS h0):Int)),(10,vi 0)] [(1000000,107,[mc4 h0])] (Wp.pre (St.vacant (t:=3) (k:=1003) (e:=134) (K':=[(0,.mp 1000000),(3,.row 1003),(8,ls (keysS h0)),(9,vi (List.length (keysS h0):Int)),(10,vi 0)]) (good_E_api_Kept _) (by decide) (by kernel_rfl) (by kernel_rfl)) (kw [0,3,8,9,10] [1003,1000000] [(0,.mp 1000000),(3,.row 1003),(8,ls (keysS h0)),(9,vi (List.length (keysS h0):Int)),(10,vi 0)] [(1003,134,[rc21 []]),(1000000,107,[mc4 h0])] (Wp.loopL (ok_store_shelf_list__m0_l1 n (keysS h0) (List.length (keysS h0):Int) h0 n ([]:List (S_api_Kept)) 0 o2 ho2 (To.blockX (To.thenN (Wp.seq (rg [2] [1003,1000000] [(2,.row 1003)] [(1003,134,[rc21 o2]),(1000000,107,[mc4 h0])] (To.thenN (Wp.ret ?_))))))))))
 refine To.pre (St.settle (ks:=[1003]) (kk:=[2]) (kl:=[1003,1000000]) (K':=[(2,.row 1003)]) (L':=[(1003,134,[rc23 o2]),(1000000,107,[mc4 h0])]) (by kernel_rfl)) (To.pre (St.sealK [2] (K':=[(2,rs22 o2)]) (by kernel_rfl)) ?_)
 cases h
 exact To.doneB hΓ [1000000] (by kernel_rfl) (by kernel_rfl)
def store_Store_Nets__o0 (n:Nat) (h0:S_store_Store):Option ((List (S_api_Kept)) × S_store_Store) :=
 (store_shelf_list__m0 n h0.f_nets).bind fun r1 =>
 some (r1.1,(S_store_Store.mk h0.f_boxes r1.2 h0.f_vols h0.f_last))
theorem ok_store_Store_Nets__o0 (n:Nat) (h0:S_store_Store) (r:(List (S_api_Kept)) × S_store_Store) (h:store_Store_Nets__o0 n h0 = some r):CallsB Tryz.prog 18 [.own 1000000 0] (qf5 1000000 1010060 1010061 1010062 h0) (rs22 r.1) (qf5 1000000 1010060 1010061 1010062 r.2):=by
 unfold store_Store_Nets__o0 at h
 refine bo Tryz.f18 rfl fun F0 w0=>?_
 refine Wp.seq (rg [0] [1000000,1010060,1010061,1010062] [(0,.own 1000000 0)] (qf5 1000000 1010060 1010061 1010062 h0) (To.thenN (Wp.seq (Wp.seq (rg [0,4] [1000000,1010060,1010061,1010062] [(0,.own 1000000 0),(4,vb false)] (qf5 1000000 1010060 1010061 1010062 h0) (To.thenN (Wp.cond (b:=false) (by kernel_rfl) (fun hb=>by cases hb) (fun _=>(Wp.skip (To.thenN (Wp.seq ?_)))))))))))
 obtain ⟨r1,hr1,h⟩:=bind_of h
 refine rb [] 4 ⟨[(1000000,1010061)],[(1000000,1010061)],[.mp 1000000],[(1000000,107,[mc4 h0.f_nets])],rs22 r1.1,[(1000000,107,[mc4 r1.2])]⟩ [2] [1000000,1010060,1010061,1010062] [(2,rs22 r1.1)] [(1000000,109,[.mp 1010060,.mp 1010061,.mp 1010062,vi h0.f_last]),(1010060,105,[mc3 h0.f_boxes]),(1010061,107,[mc4 r1.2]),(1010062,107,[mc4 h0.f_vols])] ((ok_store_shelf_list__m0 n h0.f_nets _ hr1)) (To.thenN (Wp.ret ?_))
 cases h
 exact To.doneB hΓ [1000000,1010060,1010061,1010062] (by kernel_rfl) (by kernel_rfl)
def store_Store_Vols__o0 (n:Nat) (h0:S_store_Store):Option ((List (S_api_Kept)) × S_store_Store) :=
 (store_shelf_list__m0 n h0.f_vols).bind fun r1 =>
 some (r1.1,(S_store_Store.mk h0.f_boxes h0.f_nets r1.2 h0.f_last))
theorem ok_store_Store_Vols__o0 (n:Nat) (h0:S_store_Store) (r:(List (S_api_Kept)) × S_store_Store) (h:store_Store_Vols__o0 n h0 = some r):CallsB Tryz.prog 20 [.own 1000000 0] (qf5 1000000 1010060 1010061 1010062 h0) (rs22 r.1) (qf5 1000000 1010060 1010061 1010062 r.2):=by
 unfold store_Store_Vols__o0 at h
 refine bo Tryz.f20 rfl fun F0 w0=>?_
 refine Wp.seq (rg [0] [1000000,1010060,1010061,1010062] [(0,.own 1000000 0)] (qf5 1000000 1010060 1010061 1010062 h0) (To.thenN (Wp.seq (Wp.seq (rg [0,4] [1000000,1010060,1010061,1010062] [(0,.own 1000000 0),(4,vb false)] (qf5 1000000 1010060 1010061 1010062 h0) (To.thenN (Wp.cond (b:=false) (by kernel_rfl) (fun hb=>by cases hb) (fun _=>(Wp.skip (To.thenN (Wp.seq ?_)))))))))))
 obtain ⟨r1,hr1,h⟩:=bind_of h
 refine rb [] 4 ⟨[(1000000,1010062)],[(1000000,1010062)],[.mp 1000000],[(1000000,107,[mc4 h0.f_vols])],rs22 r1.1,[(1000000,107,[mc4 r1.2])]⟩ [2] [1000000,1010060,1010061,1010062] [(2,rs22 r1.1)] [(1000000,109,[.mp 1010060,.mp 1010061,.mp 1010062,vi h0.f_last]),(1010060,105,[mc3 h0.f_boxes]),(1010061,107,[mc4 h0.f_nets]),(1010062,107,[mc4 r1.2])] ((ok_store_shelf_list__m0 n h0.f_vols _ hr1)) (To.thenN (Wp.ret ?_))
 cases h
 exact To.doneB hΓ [1000000,1010060,1010061,1010062] (by kernel_rfl) (by kernel_rfl)
end Go.Proofs.YtaecmkldkljioaaGreat.M
