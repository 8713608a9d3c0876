import Derived.Test.YtaecmkldkljioaaGreatQM35j
set_option linter.all false
namespace Go.Proofs.YtaecmkldkljioaaGreat.M
open Go.RowKit Go.Proofs.YtaecmkldkljioaaGreat.RX
set_option maxRecDepth 100000
abbrev ex27 (x0:List (S_api_Container)) (x1:Int):=((x0)[Int.toNat (IntKind.wrap .i64 (x1 - 1))]?.getD Z_api_Container)
abbrev ex28 (x0:Int) (x1:List (S_api_Container)):=(0 ≤ (IntKind.wrap .i64 (x0 - 1)) ∧ (IntKind.wrap .i64 (x0 - 1)) < (List.length x1:Int))
abbrev ex29 (x0:Int):=(Int.toNat (IntKind.wrap .i64 (x0 - 1)))
abbrev ex50 (x0:List (S_api_Container)) (x1:Int):=(List.set x0 (Int.toNat x1) (ex27 x0 x1))
abbrev ex54 (x0:Int) (x1:List (S_api_Container)):=(decide (0 ≤ (IntKind.wrap .i64 (x0 - 1)) ∧ (IntKind.wrap .i64 (x0 - 1)) < (List.length (ex50 x1 x0):Int)))
abbrev ex55 (x0:List (S_api_Container)) (x1:Int):=(List.set (ex50 x0 x1) (ex29 x1) (ex15 x0 x1))
theorem ok_slices_insertionSortCmpFunc_api_Container__r0__view_sorted_1_l2 (n:Nat) (v1:Int) (v2:Int) (v8:Int) {F0:Fz} {w0:Pt Tryz.prog} {Q:Exit → Act → World → Prop} (k:Nat):∀ (v0:List (S_api_Container)) (v9:Int) (o:(List (S_api_Container))),slices_insertionSortCmpFunc_api_Container__r0__view_sorted_1_l2 n v1 v2 v8 k v0 v9 = some o → To 53 F0 w0 [(0,.row 1000000),(1,vi v1),(2,vi v2),(3,.fn 137 []),(8,vi v8)] [(1000000,120,[rc17 o])] (.exit 2) Q → WL Tryz.prog 53 F0 w0 [(0,.row 1000000),(1,vi v1),(2,vi v2),(3,.fn 137 []),(8,vi v8),(9,vi v9)] [(1000000,120,[rc17 v0])] (cI (cI (cB (cI (cA (cB (cI (cI (cB (cF Tryz.f175)))))))))) Q:=by
 induction k with
 | zero=>intro v0 v9 o h; cases h
 | succ k ih =>
  intro v0 v9 o h hQ
  rw [slices_insertionSortCmpFunc_api_Container__r0__view_sorted_1_l2] at h
  refine WL.round (Wp.seq (Wp.seq ?_))
  obtain ⟨hc6,h⟩:=chk_of h
  obtain ⟨hc7,h⟩:=chk_of h
  obtain ⟨r1,hr1,h⟩:=bind_of h
  refine Wp.regionD hm hΓ [(14,vi r1)] [0,1,2,3,8,9,34] [1000000] (K':=[(0,.row 1000000),(1,vi v1),(2,vi v2),(3,.fn 137 []),(8,vi v8),(9,vi v9),(34,vb (bif (decide (v9 > v1)) then (decide (r1 < 0)) else false))]) (L':=[(1000000,120,[rc17 v0])]) (ob:=[(!((decide (v9 > v1)) == true) || decide (0 ≤ v9 ∧ v9 < (List.length v0:Int))) = true,(!((decide (v9 > v1)) == true) || decide (0 ≤ v9 ∧ v9 < (List.length v0:Int))) = true,(!((decide (v9 > v1)) == true) || decide (ex28 v9 v0)) = true,(!((decide (v9 > v1)) == true) || decide (ex28 v9 v0)) = true,(((decide (v9 > v1)) == true) = true → CX Tryz.prog 137 [.agg [vi ((ex15 v0 v9).f_Id),.str ((ex15 v0 v9).f_Spec.f_Name),.str (ex42 v0 v9),.str (ex43 v0 v9),vi (ex45 v0 v9),.str ((ex15 v0 v9).f_Spec.f_Hash),ls ((ex15 v0 v9).f_Spec.f_Nets),ls ((ex15 v0 v9).f_Spec.f_Vols),.str (ex41 v0 v9),vi (ex39 v0 v9),vi (ex40 v0 v9),vi (ex38 v0 v9),vi (ex44 v0 v9),vi ((ex15 v0 v9).f_Spec.f_Tries),vi ((ex15 v0 v9).f_State),vi ((ex15 v0 v9).f_Code),vi ((ex15 v0 v9).f_Health),vi ((ex15 v0 v9).f_Runs)],.agg [vi ((ex27 v0 v9).f_Id),.str ((ex27 v0 v9).f_Spec.f_Name),.str ((ex27 v0 v9).f_Spec.f_Project),.str ((ex27 v0 v9).f_Spec.f_Service),vi ((ex27 v0 v9).f_Spec.f_Number),.str ((ex27 v0 v9).f_Spec.f_Hash),ls ((ex27 v0 v9).f_Spec.f_Nets),ls ((ex27 v0 v9).f_Spec.f_Vols),.str ((ex27 v0 v9).f_Spec.f_Health.f_Test),vi ((ex27 v0 v9).f_Spec.f_Health.f_Every),vi ((ex27 v0 v9).f_Spec.f_Health.f_Start),vi ((ex27 v0 v9).f_Spec.f_Health.f_Retries),vi ((ex27 v0 v9).f_Spec.f_Restart),vi ((ex27 v0 v9).f_Spec.f_Tries),vi ((ex27 v0 v9).f_State),vi ((ex27 v0 v9).f_Code),vi ((ex27 v0 v9).f_Health),vi ((ex27 v0 v9).f_Runs)]] (vi r1))]) (by kernel_rfl) (AllP.cons hc6 (AllP.cons hc6 (AllP.cons hc7 (AllP.cons hc7 (AllP.cons (fun hg=>cx (ok_view_sorted_1 n (ex15 v0 v9) (ex27 v0 v9) _ (if_t hg hr1))) AllP.nil))))) (To.thenN (cn h (fun h=>?_) (fun h=>?_)))
  ·refine Wp.skip (To.thenN (Wp.seq (Wp.block ?_)))
   obtain ⟨hc3,h⟩:=chk_of h
   obtain ⟨hc4,h⟩:=chk_of h
   obtain ⟨hc5,h⟩:=chk_of h
   obtain ⟨x2,hx2,h⟩:=lett_of h
   refine Wp.regionO hm hΓ [] [(15,rs19 (ex50 v0 v9)),(17,rs19 (ex55 v0 v9))] [] [0,1,2,3,8,9,34,37,38,39,40,41,42,43,44,45,46,47,48,49,50,51,52] [1000000] [0,1,2,3,8,9] [1000000] (K':=[(0,.row 1000000),(1,vi v1),(2,vi v2),(3,.fn 137 []),(8,vi v8),(9,vi v9)]) (L':=[(1000000,120,[rc17 (ex55 v0 v9)])]) (ob:=[(decide (ex28 v9 v0)) = true,(decide (ex28 v9 v0)) = true,(ex16 v9 v0) = true,(ex16 v9 v0) = true,(ex16 v9 v0) = true,(ex16 v9 v0) = true,UpdOb Z_api_Container E_api_Container v0 v9 0 [vi ((ex27 v0 v9).f_Id),.str ((ex27 v0 v9).f_Spec.f_Name),.str ((ex27 v0 v9).f_Spec.f_Project),.str ((ex27 v0 v9).f_Spec.f_Service),vi ((ex27 v0 v9).f_Spec.f_Number),.str ((ex27 v0 v9).f_Spec.f_Hash),ls ((ex27 v0 v9).f_Spec.f_Nets),ls ((ex27 v0 v9).f_Spec.f_Vols),.str ((ex27 v0 v9).f_Spec.f_Health.f_Test),vi ((ex27 v0 v9).f_Spec.f_Health.f_Every),vi ((ex27 v0 v9).f_Spec.f_Health.f_Start),vi ((ex27 v0 v9).f_Spec.f_Health.f_Retries),vi ((ex27 v0 v9).f_Spec.f_Restart),vi ((ex27 v0 v9).f_Spec.f_Tries),vi ((ex27 v0 v9).f_State),vi ((ex27 v0 v9).f_Code),vi ((ex27 v0 v9).f_Health),vi ((ex27 v0 v9).f_Runs)] (rs19 (ex50 v0 v9)),(ex54 v9 v0) = true,(ex54 v9 v0) = true,UpdOb Z_api_Container E_api_Container (ex50 v0 v9) (IntKind.wrap .i64 (v9 - 1)) 0 [vi ((ex15 v0 v9).f_Id),.str ((ex15 v0 v9).f_Spec.f_Name),.str (ex42 v0 v9),.str (ex43 v0 v9),vi (ex45 v0 v9),.str ((ex15 v0 v9).f_Spec.f_Hash),ls ((ex15 v0 v9).f_Spec.f_Nets),ls ((ex15 v0 v9).f_Spec.f_Vols),.str (ex41 v0 v9),vi (ex39 v0 v9),vi (ex40 v0 v9),vi (ex38 v0 v9),vi (ex44 v0 v9),vi ((ex15 v0 v9).f_Spec.f_Tries),vi ((ex15 v0 v9).f_State),vi ((ex15 v0 v9).f_Code),vi ((ex15 v0 v9).f_Health),vi ((ex15 v0 v9).f_Runs)] (rs19 (ex55 v0 v9))]) (by kernel_rfl) (by kernel_rfl) (AllP.cons hc3 (AllP.cons hc3 (AllP.cons hc4 (AllP.cons hc4 (AllP.cons hc4 (AllP.cons hc4 (AllP.cons (updOb (by kernel_rfl)) (AllP.cons hc5 (AllP.cons hc5 (AllP.cons (updOb (by kernel_rfl)) AllP.nil)))))))))) (To.eq (K':=[(0,.row 1000000),(1,vi v1),(2,vi v2),(3,.fn 137 []),(8,vi v8),(9,vi v9)]) (L':=[(1000000,120,[rc17 x2])]) (by cases hx2; rfl) (by cases hx2; rfl) (To.blockN (To.thenN (rg [0,1,2,3,8,9] [1000000] [(0,.row 1000000),(1,vi v1),(2,vi v2),(3,.fn 137 []),(8,vi v8),(9,vi (IntKind.wrap .i64 (v9 - 1)))] [(1000000,120,[rc17 x2])] (kt [0,1,2,3,8,9] [1000000] [(0,.row 1000000),(1,vi v1),(2,vi v2),(3,.fn 137 []),(8,vi v8),(9,vi (IntKind.wrap .i64 (v9 - 1)))] [(1000000,120,[rc17 x2])] (To.again ?_))))))
   exact ih x2 (IntKind.wrap .i64 (v9 - 1)) _ h hQ
  ·refine Wp.exit (To.thenX (To.thenX (kt [0,1,2,3,8] [1000000] [(0,.row 1000000),(1,vi v1),(2,vi v2),(3,.fn 137 []),(8,vi v8)] [(1000000,120,[rc17 v0])] ?_)))
   cases h
   exact hQ
def slices_insertionSortCmpFunc_api_Container__r0__view_sorted_1_l1 (n:Nat) (v1:Int) (v2:Int):Nat → (List (S_api_Container)) → Int → Option ((List (S_api_Container)))
 | 0,_,_=>none
 | k + 1,v0,v8=>if (decide (v8 < v2)) = true then ((slices_insertionSortCmpFunc_api_Container__r0__view_sorted_1_l2 n v1 v2 v8 n v0 v8).bind fun o1 =>
 slices_insertionSortCmpFunc_api_Container__r0__view_sorted_1_l1 n v1 v2 k o1 (IntKind.wrap .i64 (v8 + 1)))
 else some v0
theorem ok_slices_insertionSortCmpFunc_api_Container__r0__view_sorted_1_l1 (n:Nat) (v1:Int) (v2:Int) {F0:Fz} {w0:Pt Tryz.prog} {Q:Exit → Act → World → Prop} (k:Nat):∀ (v0:List (S_api_Container)) (v8:Int) (o:(List (S_api_Container))),slices_insertionSortCmpFunc_api_Container__r0__view_sorted_1_l1 n v1 v2 k v0 v8 = some o → To 53 F0 w0 [] [(1000000,120,[rc17 o])] (.exit 0) Q → WL Tryz.prog 53 F0 w0 [(0,.row 1000000),(1,vi v1),(2,vi v2),(3,.fn 137 []),(8,vi v8)] [(1000000,120,[rc17 v0])] (cI (cI (cB (cF Tryz.f175)))) Q:=by
 induction k with
 | zero=>intro v0 v8 o h; cases h
 | succ k ih =>
  intro v0 v8 o h hQ
  rw [slices_insertionSortCmpFunc_api_Container__r0__view_sorted_1_l1] at h
  refine WL.round (Wp.seq (Wp.seq (rg [0,1,2,3,8,14] [1000000] [(0,.row 1000000),(1,vi v1),(2,vi v2),(3,.fn 137 []),(8,vi v8),(14,vb (decide (v8 < v2)))] [(1000000,120,[rc17 v0])] (To.thenN (cn h (fun h=>?_) (fun h=>?_))))))
  ·refine Wp.skip (To.thenN (Wp.seq (Wp.block (Wp.seq (rg [0,1,2,3,8,9] [1000000] [(0,.row 1000000),(1,vi v1),(2,vi v2),(3,.fn 137 []),(8,vi v8),(9,vi v8)] [(1000000,120,[rc17 v0])] (To.thenN (Wp.block ?_)))))))
   obtain ⟨o1,ho1,h⟩:=bind_of h
   refine kw [0,1,2,3,8,9] [1000000] [(0,.row 1000000),(1,vi v1),(2,vi v2),(3,.fn 137 []),(8,vi v8),(9,vi v8)] [(1000000,120,[rc17 v0])] (Wp.loopL (ok_slices_insertionSortCmpFunc_api_Container__r0__view_sorted_1_l2 n v1 v2 v8 n v0 v8 o1 ho1 (To.blockX (To.blockN (To.thenN (rg [0,1,2,3,8] [1000000] [(0,.row 1000000),(1,vi v1),(2,vi v2),(3,.fn 137 []),(ex4 v8)] [(1000000,120,[rc17 o1])] (kt [0,1,2,3,8] [1000000] [(0,.row 1000000),(1,vi v1),(2,vi v2),(3,.fn 137 []),(ex4 v8)] [(1000000,120,[rc17 o1])] (To.again ?_))))))))
   exact ih o1 (IntKind.wrap .i64 (v8 + 1)) _ h hQ
  ·refine Wp.exit (To.thenX (To.thenX (kt [] [1000000] [] [(1000000,120,[rc17 v0])] ?_)))
   cases h
   exact hQ
def slices_insertionSortCmpFunc_api_Container__r0__view_sorted_1 (n:Nat) (a1:Int) (a2:Int) (h0:List (S_api_Container)):Option ((List (S_api_Container))) :=
 (slices_insertionSortCmpFunc_api_Container__r0__view_sorted_1_l1 n a1 a2 n h0 (IntKind.wrap .i64 (a1 + 1))).bind fun o1 =>
 some o1
theorem ok_slices_insertionSortCmpFunc_api_Container__r0__view_sorted_1 (n:Nat) (a1:Int) (a2:Int) (h0:List (S_api_Container)) (r:(List (S_api_Container))) (h:slices_insertionSortCmpFunc_api_Container__r0__view_sorted_1 n a1 a2 h0 = some r):CallsB Tryz.prog 175 [.row 1000000,vi a1,vi a2,.fn 137 []] [(1000000,120,[rc17 h0])] (.tup []) [(1000000,120,[rc17 r])]:=by
 unfold slices_insertionSortCmpFunc_api_Container__r0__view_sorted_1 at h
 refine bo Tryz.f175 rfl fun F0 w0=>?_
 refine Wp.seq (rg [0,1,2,3,8] [1000000] [(0,.row 1000000),(1,vi a1),(2,vi a2),(3,.fn 137 []),(ex4 a1)] [(1000000,120,[rc17 h0])] (To.thenN (Wp.block ?_)))
 obtain ⟨o1,ho1,h⟩:=bind_of h
 refine kw [0,1,2,3,8] [1000000] [(0,.row 1000000),(1,vi a1),(2,vi a2),(3,.fn 137 []),(ex4 a1)] [(1000000,120,[rc17 h0])] (Wp.loopL (ok_slices_insertionSortCmpFunc_api_Container__r0__view_sorted_1_l1 n a1 a2 n h0 (IntKind.wrap .i64 (a1 + 1)) o1 ho1 (To.blockX (To.fin ?_))))
 cases h
 exact To.doneB hΓ [1000000] (by kernel_rfl) (by kernel_rfl)
def slices_swapRangeCmpFunc_api_Container__r0__view_sorted_1_l1 (n:Nat) (v1:Int) (v2:Int) (v3:Int):Nat → (List (S_api_Container)) → Int → Option ((List (S_api_Container)))
 | 0,_,_=>none
 | k + 1,v0,v10=>if (decide (v10 < v3)) = true then (if (decide (0 ≤ (IntKind.wrap .i64 (v2 + v10)) ∧ (IntKind.wrap .i64 (v2 + v10)) < (List.length v0:Int))) = true then (if (decide (0 ≤ (IntKind.wrap .i64 (v1 + v10)) ∧ (IntKind.wrap .i64 (v1 + v10)) < (List.length v0:Int))) = true then (if (decide (0 ≤ (IntKind.wrap .i64 (v2 + v10)) ∧ (IntKind.wrap .i64 (v2 + v10)) < (List.length (List.set v0 (Int.toNat (IntKind.wrap .i64 (v1 + v10))) ((v0)[Int.toNat (IntKind.wrap .i64 (v2 + v10))]?.getD Z_api_Container)):Int))) = true then (lett ((List.set (List.set v0 (Int.toNat (IntKind.wrap .i64 (v1 + v10))) ((v0)[Int.toNat (IntKind.wrap .i64 (v2 + v10))]?.getD Z_api_Container)) (Int.toNat (IntKind.wrap .i64 (v2 + v10))) ((v0)[Int.toNat (IntKind.wrap .i64 (v1 + v10))]?.getD Z_api_Container)):List (S_api_Container)) fun x1 =>
 slices_swapRangeCmpFunc_api_Container__r0__view_sorted_1_l1 n v1 v2 v3 k x1 (IntKind.wrap .i64 (v10 + 1))) else none) else none) else none)
 else some v0
abbrev ex30 (x0:List (S_api_Container)) (x1:Int) (x2:Int):=((x0)[Int.toNat (IntKind.wrap .i64 (x1 + x2))]?.getD Z_api_Container)
abbrev ex31 (x0:Int) (x1:Int) (x2:List (S_api_Container)):=(decide (0 ≤ (IntKind.wrap .i64 (x0 + x1)) ∧ (IntKind.wrap .i64 (x0 + x1)) < (List.length x2:Int)))
abbrev ex32 (x0:Int) (x1:Int):=(Int.toNat (IntKind.wrap .i64 (x0 + x1)))
theorem ok_slices_swapRangeCmpFunc_api_Container__r0__view_sorted_1_l1 (n:Nat) (v1:Int) (v2:Int) (v3:Int) {F0:Fz} {w0:Pt Tryz.prog} {Q:Exit → Act → World → Prop} (k:Nat):∀ (v0:List (S_api_Container)) (v10:Int) (o:(List (S_api_Container))),slices_swapRangeCmpFunc_api_Container__r0__view_sorted_1_l1 n v1 v2 v3 k v0 v10 = some o → To 38 F0 w0 [] [(1000000,120,[rc17 o])] (.exit 0) Q → WL Tryz.prog 38 F0 w0 [(0,.row 1000000),(1,vi v1),(2,vi v2),(3,vi v3),(10,vi v10)] [(1000000,120,[rc17 v0])] (cI (cI (cB (cF Tryz.f183)))) Q:=by
 induction k with
 | zero=>intro v0 v10 o h; cases h
 | succ k ih =>
  intro v0 v10 o h hQ
  rw [slices_swapRangeCmpFunc_api_Container__r0__view_sorted_1_l1] at h
  refine WL.round (Wp.seq (Wp.seq (rg [0,1,2,3,10,13] [1000000] [(0,.row 1000000),(1,vi v1),(2,vi v2),(3,vi v3),(10,vi v10),(13,vb (decide (v10 < v3)))] [(1000000,120,[rc17 v0])] (To.thenN (cn h (fun h=>?_) (fun h=>?_))))))
  ·refine Wp.skip (To.thenN (Wp.seq (Wp.block ?_)))
   obtain ⟨hc2,h⟩:=chk_of h
   obtain ⟨hc3,h⟩:=chk_of h
   obtain ⟨hc4,h⟩:=chk_of h
   obtain ⟨x1,hx1,h⟩:=lett_of h
   refine Wp.regionO hm hΓ [] [(21,rs19 (List.set v0 (ex32 v1 v10) (ex30 v0 v2 v10))),(23,rs19 (List.set (List.set v0 (ex32 v1 v10) (ex30 v0 v2 v10)) (ex32 v2 v10) (ex30 v0 v1 v10)))] [] [0,1,2,3,10,13,16,17,18,19,20,21,22,23,24,25,26,27,28,29,30,31,32,33,34,35,36,37] [1000000] [0,1,2,3,10] [1000000] (K':=[(0,.row 1000000),(1,vi v1),(2,vi v2),(3,vi v3),(10,vi v10)]) (L':=[(1000000,120,[rc17 (List.set (List.set v0 (ex32 v1 v10) (ex30 v0 v2 v10)) (ex32 v2 v10) (ex30 v0 v1 v10))])]) (ob:=[(ex31 v2 v10 v0) = true,(ex31 v2 v10 v0) = true,(ex31 v1 v10 v0) = true,(ex31 v1 v10 v0) = true,(ex31 v1 v10 v0) = true,(ex31 v1 v10 v0) = true,UpdOb Z_api_Container E_api_Container v0 (IntKind.wrap .i64 (v1 + v10)) 0 [vi ((ex30 v0 v2 v10).f_Id),.str ((ex30 v0 v2 v10).f_Spec.f_Name),.str ((ex30 v0 v2 v10).f_Spec.f_Project),.str ((ex30 v0 v2 v10).f_Spec.f_Service),vi ((ex30 v0 v2 v10).f_Spec.f_Number),.str ((ex30 v0 v2 v10).f_Spec.f_Hash),ls ((ex30 v0 v2 v10).f_Spec.f_Nets),ls ((ex30 v0 v2 v10).f_Spec.f_Vols),.str ((ex30 v0 v2 v10).f_Spec.f_Health.f_Test),vi ((ex30 v0 v2 v10).f_Spec.f_Health.f_Every),vi ((ex30 v0 v2 v10).f_Spec.f_Health.f_Start),vi ((ex30 v0 v2 v10).f_Spec.f_Health.f_Retries),vi ((ex30 v0 v2 v10).f_Spec.f_Restart),vi ((ex30 v0 v2 v10).f_Spec.f_Tries),vi ((ex30 v0 v2 v10).f_State),vi ((ex30 v0 v2 v10).f_Code),vi ((ex30 v0 v2 v10).f_Health),vi ((ex30 v0 v2 v10).f_Runs)] (rs19 (List.set v0 (ex32 v1 v10) (ex30 v0 v2 v10))),(decide (0 ≤ (IntKind.wrap .i64 (v2 + v10)) ∧ (IntKind.wrap .i64 (v2 + v10)) < (List.length (List.set v0 (ex32 v1 v10) (ex30 v0 v2 v10)):Int))) = true,(decide (0 ≤ (IntKind.wrap .i64 (v2 + v10)) ∧ (IntKind.wrap .i64 (v2 + v10)) < (List.length (List.set v0 (ex32 v1 v10) (ex30 v0 v2 v10)):Int))) = true,UpdOb Z_api_Container E_api_Container (List.set v0 (ex32 v1 v10) (ex30 v0 v2 v10)) (IntKind.wrap .i64 (v2 + v10)) 0 [vi ((ex30 v0 v1 v10).f_Id),.str ((ex30 v0 v1 v10).f_Spec.f_Name),.str ((ex30 v0 v1 v10).f_Spec.f_Project),.str ((ex30 v0 v1 v10).f_Spec.f_Service),vi ((ex30 v0 v1 v10).f_Spec.f_Number),.str ((ex30 v0 v1 v10).f_Spec.f_Hash),ls ((ex30 v0 v1 v10).f_Spec.f_Nets),ls ((ex30 v0 v1 v10).f_Spec.f_Vols),.str ((ex30 v0 v1 v10).f_Spec.f_Health.f_Test),vi ((ex30 v0 v1 v10).f_Spec.f_Health.f_Every),vi ((ex30 v0 v1 v10).f_Spec.f_Health.f_Start),vi ((ex30 v0 v1 v10).f_Spec.f_Health.f_Retries),vi ((ex30 v0 v1 v10).f_Spec.f_Restart),vi ((ex30 v0 v1 v10).f_Spec.f_Tries),vi ((ex30 v0 v1 v10).f_State),vi ((ex30 v0 v1 v10).f_Code),vi ((ex30 v0 v1 v10).f_Health),vi ((ex30 v0 v1 v10).f_Runs)] (rs19 (List.set (List.set v0 (ex32 v1 v10) (ex30 v0 v2 v10)) (ex32 v2 v10) (ex30 v0 v1 v10)))]) (by kernel_rfl) (by kernel_rfl) (AllP.cons hc2 (AllP.cons hc2 (AllP.cons hc3 (AllP.cons hc3 (AllP.cons hc3 (AllP.cons hc3 (AllP.cons (updOb (by kernel_rfl)) (AllP.cons hc4 (AllP.cons hc4 (AllP.cons (updOb (by kernel_rfl)) AllP.nil)))))))))) (To.eq (K':=[(0,.row 1000000),(1,vi v1),(2,vi v2),(3,vi v3),(10,vi v10)]) (L':=[(1000000,120,[rc17 x1])]) (by cases hx1; rfl) (by cases hx1; rfl) (To.blockN (To.thenN (rg [0,1,2,3,10] [1000000] [(0,.row 1000000),(1,vi v1),(2,vi v2),(3,vi v3),(ex18 v10)] [(1000000,120,[rc17 x1])] (kt [0,1,2,3,10] [1000000] [(0,.row 1000000),(1,vi v1),(2,vi v2),(3,vi v3),(ex18 v10)] [(1000000,120,[rc17 x1])] (To.again ?_))))))
   exact ih x1 (IntKind.wrap .i64 (v10 + 1)) _ h hQ
  ·refine Wp.exit (To.thenX (To.thenX (kt [] [1000000] [] [(1000000,120,[rc17 v0])] ?_)))
   cases h
   exact hQ
def slices_swapRangeCmpFunc_api_Container__r0__view_sorted_1 (n:Nat) (a1:Int) (a2:Int) (a3:Int) (h0:List (S_api_Container)):Option ((List (S_api_Container))) :=
 (slices_swapRangeCmpFunc_api_Container__r0__view_sorted_1_l1 n a1 a2 a3 n h0 0).bind fun o1 =>
 some o1
theorem ok_slices_swapRangeCmpFunc_api_Container__r0__view_sorted_1 (n:Nat) (a1:Int) (a2:Int) (a3:Int) (h0:List (S_api_Container)) (r:(List (S_api_Container))) (h:slices_swapRangeCmpFunc_api_Container__r0__view_sorted_1 n a1 a2 a3 h0 = some r):CallsB Tryz.prog 183 [.row 1000000,vi a1,vi a2,vi a3,.fn 137 []] [(1000000,120,[rc17 h0])] (.tup []) [(1000000,120,[rc17 r])]:=by
 unfold slices_swapRangeCmpFunc_api_Container__r0__view_sorted_1 at h
 refine bo Tryz.f183 rfl fun F0 w0=>?_
 refine Wp.seq (rg [0,1,2,3,10] [1000000] [(0,.row 1000000),(1,vi a1),(2,vi a2),(3,vi a3),(10,vi 0)] [(1000000,120,[rc17 h0])] (To.thenN (Wp.block ?_)))
 obtain ⟨o1,ho1,h⟩:=bind_of h
 refine kw [0,1,2,3,10] [1000000] [(0,.row 1000000),(1,vi a1),(2,vi a2),(3,vi a3),(10,vi 0)] [(1000000,120,[rc17 h0])] (Wp.loopL (ok_slices_swapRangeCmpFunc_api_Container__r0__view_sorted_1_l1 n a1 a2 a3 n h0 0 o1 ho1 (To.blockX (To.fin ?_))))
 cases h
 exact To.doneB hΓ [1000000] (by kernel_rfl) (by kernel_rfl)
def slices_rotateCmpFunc_api_Container__r0__view_sorted_1_l1 (n:Nat) (v2:Int):Nat → (List (S_api_Container)) → Int → Int → Option ((List (S_api_Container)) × Int)
 | 0,_,_,_=>none
 | k + 1,v0,v10,v11=>if (v10 != v11) = true then (if (decide (v10 > v11)) = true then ((slices_swapRangeCmpFunc_api_Container__r0__view_sorted_1 n (IntKind.wrap .i64 (v2 - v10)) v2 v11 v0).bind fun r1 =>
 slices_rotateCmpFunc_api_Container__r0__view_sorted_1_l1 n v2 k r1 (IntKind.wrap .i64 (v10 - v11)) v11)
 else ((slices_swapRangeCmpFunc_api_Container__r0__view_sorted_1 n (IntKind.wrap .i64 (v2 - v10)) (IntKind.wrap .i64 ((IntKind.wrap .i64 (v2 + v11)) - v10)) v10 v0).bind fun r2 =>
 slices_rotateCmpFunc_api_Container__r0__view_sorted_1_l1 n v2 k r2 v10 (IntKind.wrap .i64 (v11 - v10))))
 else (some (v0,v10))
abbrev ex33 (x0:Int) (x1:Int):=(IntKind.wrap .i64 (x0 + x1))
abbrev ex34 (x0:Int) (x1:Int):=(IntKind.wrap .i64 (x0 - x1))
theorem ok_slices_rotateCmpFunc_api_Container__r0__view_sorted_1_l1 (n:Nat) (v2:Int) {F0:Fz} {w0:Pt Tryz.prog} {Q:Exit → Act → World → Prop} (k:Nat):∀ (v0:List (S_api_Container)) (v10:Int) (v11:Int) (o:(List (S_api_Container)) × Int),slices_rotateCmpFunc_api_Container__r0__view_sorted_1_l1 n v2 k v0 v10 v11 = some o → To 58 F0 w0 [(0,.row 1000000),(2,vi v2),(4,.fn 137 []),(10,vi o.2)] [(1000000,120,[rc17 o.1])] (.exit 0) Q → WL Tryz.prog 58 F0 w0 [(0,.row 1000000),(2,vi v2),(4,.fn 137 []),(10,vi v10),(11,vi v11)] [(1000000,120,[rc17 v0])] (cI (cI (cA (cB (cB (cF Tryz.f181)))))) Q:=by
 induction k with
 | zero=>intro v0 v10 v11 o h; cases h
 | succ k ih =>
  intro v0 v10 v11 o h hQ
  rw [slices_rotateCmpFunc_api_Container__r0__view_sorted_1_l1] at h
  refine WL.round (Wp.seq (Wp.seq (rg [0,2,4,10,11,20] [1000000] [(0,.row 1000000),(2,vi v2),(4,.fn 137 []),(10,vi v10),(11,vi v11),(20,vb (v10 != v11))] [(1000000,120,[rc17 v0])] (To.thenN (cn h (fun h=>?_) (fun h=>?_))))))
  ·refine Wp.skip (To.thenN (Wp.block (Wp.seq (rg [0,2,4,10,11,23] [1000000] [(0,.row 1000000),(2,vi v2),(4,.fn 137 []),(10,vi v10),(11,vi v11),(23,vb (decide (v10 > v11)))] [(1000000,120,[rc17 v0])] (To.thenN (cn h (fun h=>?_) (fun h=>?_)))))))
   ·refine Wp.seq ?_
    obtain ⟨r1,hr1,h⟩:=bind_of h
    refine rb [] 7 ⟨[(1000000,1000000)],[(1000000,1000000)],[.row 1000000,vi (ex34 v2 v10),vi v2,vi v11,.fn 137 []],[(1000000,120,[rc17 v0])],.tup [],[(1000000,120,[rc17 r1])]⟩ [0,2,4,10,11] [1000000] [(0,.row 1000000),(2,vi v2),(4,.fn 137 []),(10,vi v10),(11,vi v11)] [(1000000,120,[rc17 r1])] ((ok_slices_swapRangeCmpFunc_api_Container__r0__view_sorted_1 n (ex34 v2 v10) v2 v11 v0 _ hr1)) (To.thenN (rg [0,2,4,10,11] [1000000] [(0,.row 1000000),(2,vi v2),(4,.fn 137 []),(10,vi (ex34 v10 v11)),(11,vi v11)] [(1000000,120,[rc17 r1])] (To.blockN (To.again ?_))))
    exact ih r1 (ex34 v10 v11) v11 _ h hQ
   ·refine Wp.seq ?_
    obtain ⟨r2,hr2,h⟩:=bind_of h
    refine rb [] 11 ⟨[(1000000,1000000)],[(1000000,1000000)],[.row 1000000,vi (ex34 v2 v10),vi (IntKind.wrap .i64 ((ex33 v2 v11) - v10)),vi v10,.fn 137 []],[(1000000,120,[rc17 v0])],.tup [],[(1000000,120,[rc17 r2])]⟩ [0,2,4,10,11] [1000000] [(0,.row 1000000),(2,vi v2),(4,.fn 137 []),(10,vi v10),(11,vi v11)] [(1000000,120,[rc17 r2])] ((ok_slices_swapRangeCmpFunc_api_Container__r0__view_sorted_1 n (ex34 v2 v10) (IntKind.wrap .i64 ((ex33 v2 v11) - v10)) v10 v0 _ hr2)) (To.thenN (rg [0,2,4,10,11] [1000000] [(0,.row 1000000),(2,vi v2),(4,.fn 137 []),(10,vi v10),(11,vi (ex34 v11 v10))] [(1000000,120,[rc17 r2])] (To.blockN (To.again ?_))))
    exact ih r2 v10 (ex34 v11 v10) _ h hQ
  ·refine Wp.exit (To.thenX (To.thenX (kt [0,2,4,10] [1000000] [(0,.row 1000000),(2,vi v2),(4,.fn 137 []),(10,vi v10)] [(1000000,120,[rc17 v0])] ?_)))
   cases h
   exact hQ
def slices_rotateCmpFunc_api_Container__r0__view_sorted_1 (n:Nat) (a1:Int) (a2:Int) (a3:Int) (h0:List (S_api_Container)):Option ((List (S_api_Container))) :=
 (slices_rotateCmpFunc_api_Container__r0__view_sorted_1_l1 n a2 n h0 (IntKind.wrap .i64 (a2 - a1)) (IntKind.wrap .i64 (a3 - a2))).bind fun o1 =>
 (slices_swapRangeCmpFunc_api_Container__r0__view_sorted_1 n (IntKind.wrap .i64 (a2 - o1.2)) a2 o1.2 o1.1).bind fun r2 =>
 some r2
theorem ok_slices_rotateCmpFunc_api_Container__r0__view_sorted_1 (n:Nat) (a1:Int) (a2:Int) (a3:Int) (h0:List (S_api_Container)) (r:(List (S_api_Container))) (h:slices_rotateCmpFunc_api_Container__r0__view_sorted_1 n a1 a2 a3 h0 = some r):CallsB Tryz.prog 181 [.row 1000000,vi a1,vi a2,vi a3,.fn 137 []] [(1000000,120,[rc17 h0])] (.tup []) [(1000000,120,[rc17 r])]:=by
 unfold slices_rotateCmpFunc_api_Container__r0__view_sorted_1 at h
 refine bo Tryz.f181 rfl fun F0 w0=>?_
 refine Wp.seq (rg [0,2,3,4,10] [1000000] [(0,.row 1000000),(2,vi a2),(3,vi a3),(4,.fn 137 []),(10,vi (IntKind.wrap .i64 (a2 - a1)))] [(1000000,120,[rc17 h0])] (To.thenN (Wp.seq (rg [0,2,4,10,11] [1000000] [(0,.row 1000000),(2,vi a2),(4,.fn 137 []),(10,vi (IntKind.wrap .i64 (a2 - a1))),(11,vi (IntKind.wrap .i64 (a3 - a2)))] [(1000000,120,[rc17 h0])] (To.thenN (Wp.seq (Wp.block ?_)))))))
 obtain ⟨o1,ho1,h⟩:=bind_of h
 refine kw [0,2,4,10,11] [1000000] [(0,.row 1000000),(2,vi a2),(4,.fn 137 []),(10,vi (IntKind.wrap .i64 (a2 - a1))),(11,vi (IntKind.wrap .i64 (a3 - a2)))] [(1000000,120,[rc17 h0])] (Wp.loopL (ok_slices_rotateCmpFunc_api_Container__r0__view_sorted_1_l1 n a2 n h0 (IntKind.wrap .i64 (a2 - a1)) (IntKind.wrap .i64 (a3 - a2)) o1 ho1 (To.blockX (To.thenN ?_))))
 obtain ⟨r2,hr2,h⟩:=bind_of h
 refine rb [] 7 ⟨[(1000000,1000000)],[(1000000,1000000)],[.row 1000000,vi (IntKind.wrap .i64 (a2 - o1.2)),vi a2,vi o1.2,.fn 137 []],[(1000000,120,[rc17 o1.1])],.tup [],[(1000000,120,[rc17 r2])]⟩ [] [1000000] [] [(1000000,120,[rc17 r2])] ((ok_slices_swapRangeCmpFunc_api_Container__r0__view_sorted_1 n (IntKind.wrap .i64 (a2 - o1.2)) a2 o1.2 o1.1 _ hr2)) (To.fin ?_)
 cases h
 exact To.doneB hΓ [1000000] (by kernel_rfl) (by kernel_rfl)
def slices_symMergeCmpFunc_api_Container__r0__view_sorted_1_l1 (R_slices_symMergeCmpFunc_api_Container__r0__view_sorted_1:Int → Int → Int → (List (S_api_Container)) → Option ((List (S_api_Container)))) (n:Nat) (v0:List (S_api_Container)) (v1:Int):Nat → Int → Int → Option (Int)
 | 0,_,_=>none
 | k + 1,v10,v11=>if (decide (v10 < v11)) = true then (if (decide (0 ≤ (1:Int))) = true then (lett ((IntKind.wrap .i64 ((Int.fdiv (IntKind.wrap .u64 ((IntKind.wrap .i64 (v10 + v11)))) (2 ^ (min (Int.toNat 1) (IntKind.bits .u64)))))):Int) fun x1 =>
 if (decide (0 ≤ x1 ∧ x1 < (List.length v0:Int))) = true then (if (decide (0 ≤ v1 ∧ v1 < (List.length v0:Int))) = true then ((view_sorted_1 n ((v0)[Int.toNat x1]?.getD Z_api_Container) ((v0)[Int.toNat v1]?.getD Z_api_Container)).bind fun r2 =>
 if (decide (r2 < 0)) = true then (slices_symMergeCmpFunc_api_Container__r0__view_sorted_1_l1 R_slices_symMergeCmpFunc_api_Container__r0__view_sorted_1 n v0 v1 k (IntKind.wrap .i64 (x1 + 1)) v11)
 else (slices_symMergeCmpFunc_api_Container__r0__view_sorted_1_l1 R_slices_symMergeCmpFunc_api_Container__r0__view_sorted_1 n v0 v1 k v10 x1)) else none) else none) else none)
 else some v10
abbrev hR32 (R_slices_symMergeCmpFunc_api_Container__r0__view_sorted_1:Int → Int → Int → (List (S_api_Container)) → Option ((List (S_api_Container)))):Prop:=∀ (a1:Int) (a2:Int) (a3:Int) (h0:List (S_api_Container)) (r:(List (S_api_Container))),R_slices_symMergeCmpFunc_api_Container__r0__view_sorted_1 a1 a2 a3 h0 = some r → CallsB Tryz.prog 176 [.row 1000000,vi a1,vi a2,vi a3,.fn 137 []] [(1000000,120,[rc17 h0])] (.tup []) [(1000000,120,[rc17 r])]
abbrev ex51 (x0:Int) (x1:Int):=(IntKind.wrap .i64 ((Int.fdiv (IntKind.wrap .u64 ((ex33 x0 x1))) (2 ^ (min (Int.toNat 1) (IntKind.bits .u64))))))
theorem ok_slices_symMergeCmpFunc_api_Container__r0__view_sorted_1_l1 (R_slices_symMergeCmpFunc_api_Container__r0__view_sorted_1:Int → Int → Int → (List (S_api_Container)) → Option ((List (S_api_Container)))) (hR_slices_symMergeCmpFunc_api_Container__r0__view_sorted_1:hR32 R_slices_symMergeCmpFunc_api_Container__r0__view_sorted_1) (n:Nat) (v0:List (S_api_Container)) (v1:Int) {F0:Fz} {w0:Pt Tryz.prog} {Q:Exit → Act → World → Prop} (k:Nat):∀ (v10:Int) (v11:Int) (o:Int),slices_symMergeCmpFunc_api_Container__r0__view_sorted_1_l1 R_slices_symMergeCmpFunc_api_Container__r0__view_sorted_1 n v0 v1 k v10 v11 = some o → To 220 F0 w0 [(0,.row 1000000),(1,vi v1),(10,vi o)] [(1000000,120,[rc17 v0])] (.exit 0) Q → WL Tryz.prog 220 F0 w0 [(0,.row 1000000),(1,vi v1),(4,.fn 137 []),(10,vi v10),(11,vi v11)] [(1000000,120,[rc17 v0])] (cI (cI (cA (cB (cB (cT (cB (cA (cF Tryz.f176))))))))) Q:=by
 induction k with
 | zero=>intro v10 v11 o h; cases h
 | succ k ih =>
  intro v10 v11 o h hQ
  rw [slices_symMergeCmpFunc_api_Container__r0__view_sorted_1_l1] at h
  refine WL.round (Wp.seq (Wp.seq (rg [0,1,4,10,11,33] [1000000] [(0,.row 1000000),(1,vi v1),(4,.fn 137 []),(10,vi v10),(11,vi v11),(33,vb (decide (v10 < v11)))] [(1000000,120,[rc17 v0])] (To.thenN (cn h (fun h=>?_) (fun h=>?_))))))
  ·refine Wp.skip (To.thenN (Wp.block (Wp.seq ?_)))
   obtain ⟨hc5,h⟩:=chk_of h
   obtain ⟨x1,hx1,h⟩:=lett_of h
   refine r0 [0,1,4,10,11,12] [1000000] [(0,.row 1000000),(1,vi v1),(4,.fn 137 []),(10,vi v10),(11,vi v11),(12,vi (ex51 v10 v11))] [(1000000,120,[rc17 v0])] (AllP.cons hc5 AllP.nil) (To.eq (K':=[(0,.row 1000000),(1,vi v1),(4,.fn 137 []),(10,vi v10),(11,vi v11),(12,vi x1)]) (L':=[(1000000,120,[rc17 v0])]) (by cases hx1; rfl) (by cases hx1; rfl) (To.thenN (Wp.seq ?_)))
   obtain ⟨hc3,h⟩:=chk_of h
   obtain ⟨hc4,h⟩:=chk_of h
   obtain ⟨r2,hr2,h⟩:=bind_of h
   refine Wp.regionD hm hΓ [(9,vi r2)] [0,1,4,10,11,12,50] [1000000] (K':=[(0,.row 1000000),(1,vi v1),(4,.fn 137 []),(10,vi v10),(11,vi v11),(12,vi x1),(50,vb (decide (r2 < 0)))]) (L':=[(1000000,120,[rc17 v0])]) (ob:=[(decide (0 ≤ x1 ∧ x1 < (List.length v0:Int))) = true,(decide (0 ≤ x1 ∧ x1 < (List.length v0:Int))) = true,(ex16 v1 v0) = true,(ex16 v1 v0) = true,(true = true → CX Tryz.prog 137 [.agg [vi (((v0)[Int.toNat x1]?.getD Z_api_Container).f_Id),.str (((v0)[Int.toNat x1]?.getD Z_api_Container).f_Spec.f_Name),.str (((v0)[Int.toNat x1]?.getD Z_api_Container).f_Spec.f_Project),.str (((v0)[Int.toNat x1]?.getD Z_api_Container).f_Spec.f_Service),vi (((v0)[Int.toNat x1]?.getD Z_api_Container).f_Spec.f_Number),.str (((v0)[Int.toNat x1]?.getD Z_api_Container).f_Spec.f_Hash),ls (((v0)[Int.toNat x1]?.getD Z_api_Container).f_Spec.f_Nets),ls (((v0)[Int.toNat x1]?.getD Z_api_Container).f_Spec.f_Vols),.str (((v0)[Int.toNat x1]?.getD Z_api_Container).f_Spec.f_Health.f_Test),vi (((v0)[Int.toNat x1]?.getD Z_api_Container).f_Spec.f_Health.f_Every),vi (((v0)[Int.toNat x1]?.getD Z_api_Container).f_Spec.f_Health.f_Start),vi (((v0)[Int.toNat x1]?.getD Z_api_Container).f_Spec.f_Health.f_Retries),vi (((v0)[Int.toNat x1]?.getD Z_api_Container).f_Spec.f_Restart),vi (((v0)[Int.toNat x1]?.getD Z_api_Container).f_Spec.f_Tries),vi (((v0)[Int.toNat x1]?.getD Z_api_Container).f_State),vi (((v0)[Int.toNat x1]?.getD Z_api_Container).f_Code),vi (((v0)[Int.toNat x1]?.getD Z_api_Container).f_Health),vi (((v0)[Int.toNat x1]?.getD Z_api_Container).f_Runs)],.agg [vi ((ex15 v0 v1).f_Id),.str ((ex15 v0 v1).f_Spec.f_Name),.str (ex42 v0 v1),.str (ex43 v0 v1),vi (ex45 v0 v1),.str ((ex15 v0 v1).f_Spec.f_Hash),ls ((ex15 v0 v1).f_Spec.f_Nets),ls ((ex15 v0 v1).f_Spec.f_Vols),.str (ex41 v0 v1),vi (ex39 v0 v1),vi (ex40 v0 v1),vi (ex38 v0 v1),vi (ex44 v0 v1),vi ((ex15 v0 v1).f_Spec.f_Tries),vi ((ex15 v0 v1).f_State),vi ((ex15 v0 v1).f_Code),vi ((ex15 v0 v1).f_Health),vi ((ex15 v0 v1).f_Runs)]] (vi r2))]) (by kernel_rfl) (AllP.cons hc3 (AllP.cons hc3 (AllP.cons hc4 (AllP.cons hc4 (AllP.cons (fun _=>cx (ok_view_sorted_1 n ((v0)[Int.toNat x1]?.getD Z_api_Container) (ex15 v0 v1) _ hr2)) AllP.nil))))) (To.thenN (cn h (fun h=>?_) (fun h=>?_)))
   ·refine rg [0,1,4,10,11] [1000000] [(0,.row 1000000),(1,vi v1),(4,.fn 137 []),(10,vi (IntKind.wrap .i64 (x1 + 1))),(11,vi v11)] [(1000000,120,[rc17 v0])] (To.blockN (To.again ?_))
    exact ih (IntKind.wrap .i64 (x1 + 1)) v11 _ h hQ
   ·refine rg [0,1,4,10,11] [1000000] [(0,.row 1000000),(1,vi v1),(4,.fn 137 []),(10,vi v10),(11,vi x1)] [(1000000,120,[rc17 v0])] (To.blockN (To.again ?_))
    exact ih v10 x1 _ h hQ
  ·refine Wp.exit (To.thenX (To.thenX (kt [0,1,10] [1000000] [(0,.row 1000000),(1,vi v1),(10,vi v10)] [(1000000,120,[rc17 v0])] ?_)))
   cases h
   exact hQ
def slices_symMergeCmpFunc_api_Container__r0__view_sorted_1_l2 (R_slices_symMergeCmpFunc_api_Container__r0__view_sorted_1:Int → Int → Int → (List (S_api_Container)) → Option ((List (S_api_Container)))) (n:Nat) (v10:Int):Nat → (List (S_api_Container)) → Int → Option ((List (S_api_Container)))
 | 0,_,_=>none
 | k + 1,v0,v13=>if (decide (v13 < (IntKind.wrap .i64 (v10 - 1)))) = true then (if (decide (0 ≤ (IntKind.wrap .i64 (v13 + 1)) ∧ (IntKind.wrap .i64 (v13 + 1)) < (List.length v0:Int))) = true then (if (decide (0 ≤ v13 ∧ v13 < (List.length v0:Int))) = true then (if (decide (0 ≤ (IntKind.wrap .i64 (v13 + 1)) ∧ (IntKind.wrap .i64 (v13 + 1)) < (List.length (List.set v0 (Int.toNat v13) ((v0)[Int.toNat (IntKind.wrap .i64 (v13 + 1))]?.getD Z_api_Container)):Int))) = true then (lett ((List.set (List.set v0 (Int.toNat v13) ((v0)[Int.toNat (IntKind.wrap .i64 (v13 + 1))]?.getD Z_api_Container)) (Int.toNat (IntKind.wrap .i64 (v13 + 1))) ((v0)[Int.toNat v13]?.getD Z_api_Container)):List (S_api_Container)) fun x2 =>
 slices_symMergeCmpFunc_api_Container__r0__view_sorted_1_l2 R_slices_symMergeCmpFunc_api_Container__r0__view_sorted_1 n v10 k x2 (IntKind.wrap .i64 (v13 + 1))) else none) else none) else none)
 else some v0
abbrev ex35 (x0:List (S_api_Container)) (x1:Int):=((x0)[Int.toNat (IntKind.wrap .i64 (x1 + 1))]?.getD Z_api_Container)
abbrev ex52 (x0:List (S_api_Container)) (x1:Int):=(List.set x0 (Int.toNat x1) (ex35 x0 x1))
theorem ok_slices_symMergeCmpFunc_api_Container__r0__view_sorted_1_l2 (R_slices_symMergeCmpFunc_api_Container__r0__view_sorted_1:Int → Int → Int → (List (S_api_Container)) → Option ((List (S_api_Container)))) (hR_slices_symMergeCmpFunc_api_Container__r0__view_sorted_1:hR32 R_slices_symMergeCmpFunc_api_Container__r0__view_sorted_1) (n:Nat) (v10:Int) {F0:Fz} {w0:Pt Tryz.prog} {Q:Exit → Act → World → Prop} (k:Nat):∀ (v0:List (S_api_Container)) (v13:Int) (o:(List (S_api_Container))),slices_symMergeCmpFunc_api_Container__r0__view_sorted_1_l2 R_slices_symMergeCmpFunc_api_Container__r0__view_sorted_1 n v10 k v0 v13 = some o → To 220 F0 w0 [] [(1000000,120,[rc17 o])] (.exit 2) Q → WL Tryz.prog 220 F0 w0 [(0,.row 1000000),(10,vi v10),(13,vi v13)] [(1000000,120,[rc17 v0])] (cI (cI (cB (cA (cB (cB (cB (cT (cB (cA (cF Tryz.f176))))))))))) Q:=by
 induction k with
 | zero=>intro v0 v13 o h; cases h
 | succ k ih =>
  intro v0 v13 o h hQ
  rw [slices_symMergeCmpFunc_api_Container__r0__view_sorted_1_l2] at h
  refine WL.round (Wp.seq (Wp.seq (rg [0,10,13,58] [1000000] [(0,.row 1000000),(10,vi v10),(13,vi v13),(58,vb (decide (v13 < (IntKind.wrap .i64 (v10 - 1)))))] [(1000000,120,[rc17 v0])] (To.thenN (cn h (fun h=>?_) (fun h=>?_))))))
  ·refine Wp.skip (To.thenN (Wp.seq (Wp.block ?_)))
   obtain ⟨hc3,h⟩:=chk_of h
   obtain ⟨hc4,h⟩:=chk_of h
   obtain ⟨hc5,h⟩:=chk_of h
   obtain ⟨x2,hx2,h⟩:=lett_of h
   refine Wp.regionO hm hΓ [] [(15,rs19 (ex52 v0 v13)),(17,rs19 (List.set (ex52 v0 v13) (Int.toNat (IntKind.wrap .i64 (v13 + 1))) (ex15 v0 v13)))] [] [0,10,13,58,61,62,63,64,65,66,67,68,69,70,71,72,73,74,75,76] [1000000] [0,10,13] [1000000] (K':=[(0,.row 1000000),(10,vi v10),(13,vi v13)]) (L':=[(1000000,120,[rc17 (List.set (ex52 v0 v13) (Int.toNat (IntKind.wrap .i64 (v13 + 1))) (ex15 v0 v13))])]) (ob:=[(decide (0 ≤ (IntKind.wrap .i64 (v13 + 1)) ∧ (IntKind.wrap .i64 (v13 + 1)) < (List.length v0:Int))) = true,(decide (0 ≤ (IntKind.wrap .i64 (v13 + 1)) ∧ (IntKind.wrap .i64 (v13 + 1)) < (List.length v0:Int))) = true,(ex16 v13 v0) = true,(ex16 v13 v0) = true,(ex16 v13 v0) = true,(ex16 v13 v0) = true,UpdOb Z_api_Container E_api_Container v0 v13 0 [vi ((ex35 v0 v13).f_Id),.str ((ex35 v0 v13).f_Spec.f_Name),.str ((ex35 v0 v13).f_Spec.f_Project),.str ((ex35 v0 v13).f_Spec.f_Service),vi ((ex35 v0 v13).f_Spec.f_Number),.str ((ex35 v0 v13).f_Spec.f_Hash),ls ((ex35 v0 v13).f_Spec.f_Nets),ls ((ex35 v0 v13).f_Spec.f_Vols),.str ((ex35 v0 v13).f_Spec.f_Health.f_Test),vi ((ex35 v0 v13).f_Spec.f_Health.f_Every),vi ((ex35 v0 v13).f_Spec.f_Health.f_Start),vi ((ex35 v0 v13).f_Spec.f_Health.f_Retries),vi ((ex35 v0 v13).f_Spec.f_Restart),vi ((ex35 v0 v13).f_Spec.f_Tries),vi ((ex35 v0 v13).f_State),vi ((ex35 v0 v13).f_Code),vi ((ex35 v0 v13).f_Health),vi ((ex35 v0 v13).f_Runs)] (rs19 (ex52 v0 v13)),(decide (0 ≤ (IntKind.wrap .i64 (v13 + 1)) ∧ (IntKind.wrap .i64 (v13 + 1)) < (List.length (ex52 v0 v13):Int))) = true,(decide (0 ≤ (IntKind.wrap .i64 (v13 + 1)) ∧ (IntKind.wrap .i64 (v13 + 1)) < (List.length (ex52 v0 v13):Int))) = true,UpdOb Z_api_Container E_api_Container (ex52 v0 v13) (IntKind.wrap .i64 (v13 + 1)) 0 [vi ((ex15 v0 v13).f_Id),.str ((ex15 v0 v13).f_Spec.f_Name),.str (ex42 v0 v13),.str (ex43 v0 v13),vi (ex45 v0 v13),.str ((ex15 v0 v13).f_Spec.f_Hash),ls ((ex15 v0 v13).f_Spec.f_Nets),ls ((ex15 v0 v13).f_Spec.f_Vols),.str (ex41 v0 v13),vi (ex39 v0 v13),vi (ex40 v0 v13),vi (ex38 v0 v13),vi (ex44 v0 v13),vi ((ex15 v0 v13).f_Spec.f_Tries),vi ((ex15 v0 v13).f_State),vi ((ex15 v0 v13).f_Code),vi ((ex15 v0 v13).f_Health),vi ((ex15 v0 v13).f_Runs)] (rs19 (List.set (ex52 v0 v13) (Int.toNat (IntKind.wrap .i64 (v13 + 1))) (ex15 v0 v13)))]) (by kernel_rfl) (by kernel_rfl) (AllP.cons hc3 (AllP.cons hc3 (AllP.cons hc4 (AllP.cons hc4 (AllP.cons hc4 (AllP.cons hc4 (AllP.cons (updOb (by kernel_rfl)) (AllP.cons hc5 (AllP.cons hc5 (AllP.cons (updOb (by kernel_rfl)) AllP.nil)))))))))) (To.eq (K':=[(0,.row 1000000),(10,vi v10),(13,vi v13)]) (L':=[(1000000,120,[rc17 x2])]) (by cases hx2; rfl) (by cases hx2; rfl) (To.blockN (To.thenN (rg [0,10,13] [1000000] [(0,.row 1000000),(10,vi v10),(13,vi (IntKind.wrap .i64 (v13 + 1)))] [(1000000,120,[rc17 x2])] (kt [0,10,13] [1000000] [(0,.row 1000000),(10,vi v10),(13,vi (IntKind.wrap .i64 (v13 + 1)))] [(1000000,120,[rc17 x2])] (To.again ?_))))))
   exact ih x2 (IntKind.wrap .i64 (v13 + 1)) _ h hQ
  ·refine Wp.exit (To.thenX (To.thenX (kt [] [1000000] [] [(1000000,120,[rc17 v0])] ?_)))
   cases h
   exact hQ
def slices_symMergeCmpFunc_api_Container__r0__view_sorted_1_l3 (R_slices_symMergeCmpFunc_api_Container__r0__view_sorted_1:Int → Int → Int → (List (S_api_Container)) → Option ((List (S_api_Container)))) (n:Nat) (v0:List (S_api_Container)) (v2:Int):Nat → Int → Int → Option (Int)
 | 0,_,_=>none
 | k + 1,v14,v15=>if (decide (v14 < v15)) = true then (if (decide (0 ≤ (1:Int))) = true then (lett ((IntKind.wrap .i64 ((Int.fdiv (IntKind.wrap .u64 ((IntKind.wrap .i64 (v14 + v15)))) (2 ^ (min (Int.toNat 1) (IntKind.bits .u64)))))):Int) fun x3 =>
 if (decide (0 ≤ v2 ∧ v2 < (List.length v0:Int))) = true then (if (decide (0 ≤ x3 ∧ x3 < (List.length v0:Int))) = true then ((view_sorted_1 n ((v0)[Int.toNat v2]?.getD Z_api_Container) ((v0)[Int.toNat x3]?.getD Z_api_Container)).bind fun r4 =>
 if (!(decide (r4 < 0))) = true then (slices_symMergeCmpFunc_api_Container__r0__view_sorted_1_l3 R_slices_symMergeCmpFunc_api_Container__r0__view_sorted_1 n v0 v2 k (IntKind.wrap .i64 (x3 + 1)) v15)
 else (slices_symMergeCmpFunc_api_Container__r0__view_sorted_1_l3 R_slices_symMergeCmpFunc_api_Container__r0__view_sorted_1 n v0 v2 k v14 x3)) else none) else none) else none)
 else some v14
theorem ok_slices_symMergeCmpFunc_api_Container__r0__view_sorted_1_l3 (R_slices_symMergeCmpFunc_api_Container__r0__view_sorted_1:Int → Int → Int → (List (S_api_Container)) → Option ((List (S_api_Container)))) (hR_slices_symMergeCmpFunc_api_Container__r0__view_sorted_1:hR32 R_slices_symMergeCmpFunc_api_Container__r0__view_sorted_1) (n:Nat) (v0:List (S_api_Container)) (v2:Int) {F0:Fz} {w0:Pt Tryz.prog} {Q:Exit → Act → World → Prop} (k:Nat):∀ (v14:Int) (v15:Int) (o:Int),slices_symMergeCmpFunc_api_Container__r0__view_sorted_1_l3 R_slices_symMergeCmpFunc_api_Container__r0__view_sorted_1 n v0 v2 k v14 v15 = some o → To 220 F0 w0 [(0,.row 1000000),(2,vi v2),(14,vi o)] [(1000000,120,[rc17 v0])] (.exit 4) Q → WL Tryz.prog 220 F0 w0 [(0,.row 1000000),(2,vi v2),(4,.fn 137 []),(14,vi v14),(15,vi v15)] [(1000000,120,[rc17 v0])] (cI (cI (cA (cB (cB (cT (cB (cA (cB (cF Tryz.f176)))))))))) Q:=by
 induction k with
 | zero=>intro v14 v15 o h; cases h
 | succ k ih =>
  intro v14 v15 o h hQ
  rw [slices_symMergeCmpFunc_api_Container__r0__view_sorted_1_l3] at h
  refine WL.round (Wp.seq (Wp.seq (rg [0,2,4,14,15,85] [1000000] [(0,.row 1000000),(2,vi v2),(4,.fn 137 []),(14,vi v14),(15,vi v15),(85,vb (decide (v14 < v15)))] [(1000000,120,[rc17 v0])] (To.thenN (cn h (fun h=>?_) (fun h=>?_))))))
  ·refine Wp.skip (To.thenN (Wp.block (Wp.seq ?_)))
   obtain ⟨hc7,h⟩:=chk_of h
   obtain ⟨x3,hx3,h⟩:=lett_of h
   refine r0 [0,2,4,14,15,16] [1000000] [(0,.row 1000000),(2,vi v2),(4,.fn 137 []),(14,vi v14),(15,vi v15),(16,vi (ex51 v14 v15))] [(1000000,120,[rc17 v0])] (AllP.cons hc7 AllP.nil) (To.eq (K':=[(0,.row 1000000),(2,vi v2),(4,.fn 137 []),(14,vi v14),(15,vi v15),(16,vi x3)]) (L':=[(1000000,120,[rc17 v0])]) (by cases hx3; rfl) (by cases hx3; rfl) (To.thenN (Wp.seq ?_)))
   obtain ⟨hc5,h⟩:=chk_of h
   obtain ⟨hc6,h⟩:=chk_of h
   obtain ⟨r4,hr4,h⟩:=bind_of h
   refine Wp.regionD hm hΓ [(9,vi r4)] [0,2,4,14,15,16,103] [1000000] (K':=[(0,.row 1000000),(2,vi v2),(4,.fn 137 []),(14,vi v14),(15,vi v15),(16,vi x3),(103,vb (!(decide (r4 < 0))))]) (L':=[(1000000,120,[rc17 v0])]) (ob:=[(ex16 v2 v0) = true,(ex16 v2 v0) = true,(decide (0 ≤ x3 ∧ x3 < (List.length v0:Int))) = true,(decide (0 ≤ x3 ∧ x3 < (List.length v0:Int))) = true,(true = true → CX Tryz.prog 137 [.agg [vi ((ex15 v0 v2).f_Id),.str ((ex15 v0 v2).f_Spec.f_Name),.str (ex42 v0 v2),.str (ex43 v0 v2),vi (ex45 v0 v2),.str ((ex15 v0 v2).f_Spec.f_Hash),ls ((ex15 v0 v2).f_Spec.f_Nets),ls ((ex15 v0 v2).f_Spec.f_Vols),.str (ex41 v0 v2),vi (ex39 v0 v2),vi (ex40 v0 v2),vi (ex38 v0 v2),vi (ex44 v0 v2),vi ((ex15 v0 v2).f_Spec.f_Tries),vi ((ex15 v0 v2).f_State),vi ((ex15 v0 v2).f_Code),vi ((ex15 v0 v2).f_Health),vi ((ex15 v0 v2).f_Runs)],.agg [vi (((v0)[Int.toNat x3]?.getD Z_api_Container).f_Id),.str (((v0)[Int.toNat x3]?.getD Z_api_Container).f_Spec.f_Name),.str (((v0)[Int.toNat x3]?.getD Z_api_Container).f_Spec.f_Project),.str (((v0)[Int.toNat x3]?.getD Z_api_Container).f_Spec.f_Service),vi (((v0)[Int.toNat x3]?.getD Z_api_Container).f_Spec.f_Number),.str (((v0)[Int.toNat x3]?.getD Z_api_Container).f_Spec.f_Hash),ls (((v0)[Int.toNat x3]?.getD Z_api_Container).f_Spec.f_Nets),ls (((v0)[Int.toNat x3]?.getD Z_api_Container).f_Spec.f_Vols),.str (((v0)[Int.toNat x3]?.getD Z_api_Container).f_Spec.f_Health.f_Test),vi (((v0)[Int.toNat x3]?.getD Z_api_Container).f_Spec.f_Health.f_Every),vi (((v0)[Int.toNat x3]?.getD Z_api_Container).f_Spec.f_Health.f_Start),vi (((v0)[Int.toNat x3]?.getD Z_api_Container).f_Spec.f_Health.f_Retries),vi (((v0)[Int.toNat x3]?.getD Z_api_Container).f_Spec.f_Restart),vi (((v0)[Int.toNat x3]?.getD Z_api_Container).f_Spec.f_Tries),vi (((v0)[Int.toNat x3]?.getD Z_api_Container).f_State),vi (((v0)[Int.toNat x3]?.getD Z_api_Container).f_Code),vi (((v0)[Int.toNat x3]?.getD Z_api_Container).f_Health),vi (((v0)[Int.toNat x3]?.getD Z_api_Container).f_Runs)]] (vi r4))]) (by kernel_rfl) (AllP.cons hc5 (AllP.cons hc5 (AllP.cons hc6 (AllP.cons hc6 (AllP.cons (fun _=>cx (ok_view_sorted_1 n (ex15 v0 v2) ((v0)[Int.toNat x3]?.getD Z_api_Container) _ hr4)) AllP.nil))))) (To.thenN (cn h (fun h=>?_) (fun h=>?_)))
   ·refine rg [0,2,4,14,15] [1000000] [(0,.row 1000000),(2,vi v2),(4,.fn 137 []),(14,vi (IntKind.wrap .i64 (x3 + 1))),(15,vi v15)] [(1000000,120,[rc17 v0])] (To.blockN (To.again ?_))
    exact ih (IntKind.wrap .i64 (x3 + 1)) v15 _ h hQ
   ·refine rg [0,2,4,14,15] [1000000] [(0,.row 1000000),(2,vi v2),(4,.fn 137 []),(14,vi v14),(15,vi x3)] [(1000000,120,[rc17 v0])] (To.blockN (To.again ?_))
    exact ih v14 x3 _ h hQ
  ·refine Wp.exit (To.thenX (To.thenX (kt [0,2,14] [1000000] [(0,.row 1000000),(2,vi v2),(14,vi v14)] [(1000000,120,[rc17 v0])] ?_)))
   cases h
   exact hQ
def slices_symMergeCmpFunc_api_Container__r0__view_sorted_1_l4 (R_slices_symMergeCmpFunc_api_Container__r0__view_sorted_1:Int → Int → Int → (List (S_api_Container)) → Option ((List (S_api_Container)))) (n:Nat) (v14:Int):Nat → (List (S_api_Container)) → Int → Option ((List (S_api_Container)))
 | 0,_,_=>none
 | k + 1,v0,v17=>if (decide (v17 > v14)) = true then (if (decide (0 ≤ (IntKind.wrap .i64 (v17 - 1)) ∧ (IntKind.wrap .i64 (v17 - 1)) < (List.length v0:Int))) = true then (if (decide (0 ≤ v17 ∧ v17 < (List.length v0:Int))) = true then (if (decide (0 ≤ (IntKind.wrap .i64 (v17 - 1)) ∧ (IntKind.wrap .i64 (v17 - 1)) < (List.length (List.set v0 (Int.toNat v17) ((v0)[Int.toNat (IntKind.wrap .i64 (v17 - 1))]?.getD Z_api_Container)):Int))) = true then (lett ((List.set (List.set v0 (Int.toNat v17) ((v0)[Int.toNat (IntKind.wrap .i64 (v17 - 1))]?.getD Z_api_Container)) (Int.toNat (IntKind.wrap .i64 (v17 - 1))) ((v0)[Int.toNat v17]?.getD Z_api_Container)):List (S_api_Container)) fun x4 =>
 slices_symMergeCmpFunc_api_Container__r0__view_sorted_1_l4 R_slices_symMergeCmpFunc_api_Container__r0__view_sorted_1 n v14 k x4 (IntKind.wrap .i64 (v17 - 1))) else none) else none) else none)
 else some v0
theorem ok_slices_symMergeCmpFunc_api_Container__r0__view_sorted_1_l4 (R_slices_symMergeCmpFunc_api_Container__r0__view_sorted_1:Int → Int → Int → (List (S_api_Container)) → Option ((List (S_api_Container)))) (hR_slices_symMergeCmpFunc_api_Container__r0__view_sorted_1:hR32 R_slices_symMergeCmpFunc_api_Container__r0__view_sorted_1) (n:Nat) (v14:Int) {F0:Fz} {w0:Pt Tryz.prog} {Q:Exit → Act → World → Prop} (k:Nat):∀ (v0:List (S_api_Container)) (v17:Int) (o:(List (S_api_Container))),slices_symMergeCmpFunc_api_Container__r0__view_sorted_1_l4 R_slices_symMergeCmpFunc_api_Container__r0__view_sorted_1 n v14 k v0 v17 = some o → To 220 F0 w0 [] [(1000000,120,[rc17 o])] (.exit 6) Q → WL Tryz.prog 220 F0 w0 [(0,.row 1000000),(14,vi v14),(17,vi v17)] [(1000000,120,[rc17 v0])] (cI (cI (cB (cA (cB (cB (cB (cT (cB (cA (cB (cF Tryz.f176)))))))))))) Q:=by
 induction k with
 | zero=>intro v0 v17 o h; cases h
 | succ k ih =>
  intro v0 v17 o h hQ
  rw [slices_symMergeCmpFunc_api_Container__r0__view_sorted_1_l4] at h
  refine WL.round (Wp.seq (Wp.seq (rg [0,14,17,110] [1000000] [(0,.row 1000000),(14,vi v14),(17,vi v17),(110,vb (decide (v17 > v14)))] [(1000000,120,[rc17 v0])] (To.thenN (cn h (fun h=>?_) (fun h=>?_))))))
  ·refine Wp.skip (To.thenN (Wp.seq (Wp.block ?_)))
   obtain ⟨hc5,h⟩:=chk_of h
   obtain ⟨hc6,h⟩:=chk_of h
   obtain ⟨hc7,h⟩:=chk_of h
   obtain ⟨x4,hx4,h⟩:=lett_of h
   refine Wp.regionO hm hΓ [] [(15,rs19 (ex50 v0 v17)),(17,rs19 (ex55 v0 v17))] [] [0,14,17,110,113,114,115,116,117,118,119,120,121,122,123,124,125,126,127,128] [1000000] [0,14,17] [1000000] (K':=[(0,.row 1000000),(14,vi v14),(17,vi v17)]) (L':=[(1000000,120,[rc17 (ex55 v0 v17)])]) (ob:=[(decide (ex28 v17 v0)) = true,(decide (ex28 v17 v0)) = true,(ex16 v17 v0) = true,(ex16 v17 v0) = true,(ex16 v17 v0) = true,(ex16 v17 v0) = true,UpdOb Z_api_Container E_api_Container v0 v17 0 [vi ((ex27 v0 v17).f_Id),.str ((ex27 v0 v17).f_Spec.f_Name),.str ((ex27 v0 v17).f_Spec.f_Project),.str ((ex27 v0 v17).f_Spec.f_Service),vi ((ex27 v0 v17).f_Spec.f_Number),.str ((ex27 v0 v17).f_Spec.f_Hash),ls ((ex27 v0 v17).f_Spec.f_Nets),ls ((ex27 v0 v17).f_Spec.f_Vols),.str ((ex27 v0 v17).f_Spec.f_Health.f_Test),vi ((ex27 v0 v17).f_Spec.f_Health.f_Every),vi ((ex27 v0 v17).f_Spec.f_Health.f_Start),vi ((ex27 v0 v17).f_Spec.f_Health.f_Retries),vi ((ex27 v0 v17).f_Spec.f_Restart),vi ((ex27 v0 v17).f_Spec.f_Tries),vi ((ex27 v0 v17).f_State),vi ((ex27 v0 v17).f_Code),vi ((ex27 v0 v17).f_Health),vi ((ex27 v0 v17).f_Runs)] (rs19 (ex50 v0 v17)),(ex54 v17 v0) = true,(ex54 v17 v0) = true,UpdOb Z_api_Container E_api_Container (ex50 v0 v17) (IntKind.wrap .i64 (v17 - 1)) 0 [vi ((ex15 v0 v17).f_Id),.str ((ex15 v0 v17).f_Spec.f_Name),.str (ex42 v0 v17),.str (ex43 v0 v17),vi (ex45 v0 v17),.str ((ex15 v0 v17).f_Spec.f_Hash),ls ((ex15 v0 v17).f_Spec.f_Nets),ls ((ex15 v0 v17).f_Spec.f_Vols),.str (ex41 v0 v17),vi (ex39 v0 v17),vi (ex40 v0 v17),vi (ex38 v0 v17),vi (ex44 v0 v17),vi ((ex15 v0 v17).f_Spec.f_Tries),vi ((ex15 v0 v17).f_State),vi ((ex15 v0 v17).f_Code),vi ((ex15 v0 v17).f_Health),vi ((ex15 v0 v17).f_Runs)] (rs19 (ex55 v0 v17))]) (by kernel_rfl) (by kernel_rfl) (AllP.cons hc5 (AllP.cons hc5 (AllP.cons hc6 (AllP.cons hc6 (AllP.cons hc6 (AllP.cons hc6 (AllP.cons (updOb (by kernel_rfl)) (AllP.cons hc7 (AllP.cons hc7 (AllP.cons (updOb (by kernel_rfl)) AllP.nil)))))))))) (To.eq (K':=[(0,.row 1000000),(14,vi v14),(17,vi v17)]) (L':=[(1000000,120,[rc17 x4])]) (by cases hx4; rfl) (by cases hx4; rfl) (To.blockN (To.thenN (rg [0,14,17] [1000000] [(0,.row 1000000),(14,vi v14),(17,vi (IntKind.wrap .i64 (v17 - 1)))] [(1000000,120,[rc17 x4])] (kt [0,14,17] [1000000] [(0,.row 1000000),(14,vi v14),(17,vi (IntKind.wrap .i64 (v17 - 1)))] [(1000000,120,[rc17 x4])] (To.again ?_))))))
   exact ih x4 (IntKind.wrap .i64 (v17 - 1)) _ h hQ
  ·refine Wp.exit (To.thenX (To.thenX (kt [] [1000000] [] [(1000000,120,[rc17 v0])] ?_)))
   cases h
   exact hQ
def slices_symMergeCmpFunc_api_Container__r0__view_sorted_1_j5 (R_slices_symMergeCmpFunc_api_Container__r0__view_sorted_1:Int → Int → Int → (List (S_api_Container)) → Option ((List (S_api_Container)))) (n:Nat) (v0:List (S_api_Container)) (v1:Int) (v2:Int) (v3:Int) (v18:Int) (v19:Int) (v140:Bool):Option (Int × Int) :=
 if v140 = true then (some ((IntKind.wrap .i64 (v19 - v3)),v18))
 else (some (v1,v2))
theorem ok_slices_symMergeCmpFunc_api_Container__r0__view_sorted_1_j5 (R_slices_symMergeCmpFunc_api_Container__r0__view_sorted_1:Int → Int → Int → (List (S_api_Container)) → Option ((List (S_api_Container)))) (hR_slices_symMergeCmpFunc_api_Container__r0__view_sorted_1:hR32 R_slices_symMergeCmpFunc_api_Container__r0__view_sorted_1) (n:Nat) (v0:List (S_api_Container)) (v1:Int) (v2:Int) (v3:Int) (v18:Int) (v19:Int) (v140:Bool) (o:Int × Int) (h:slices_symMergeCmpFunc_api_Container__r0__view_sorted_1_j5 R_slices_symMergeCmpFunc_api_Container__r0__view_sorted_1 n v0 v1 v2 v3 v18 v19 v140 = some o) {F0:Fz} {w0:Pt Tryz.prog} {Q:Exit → Act → World → Prop} (hQ:To 220 F0 w0 [(0,.row 1000000),(1,vi v1),(2,vi v2),(3,vi v3),(4,.fn 137 []),(18,vi v18),(19,vi v19),(20,vi o.1),(21,vi o.2)] [(1000000,120,[rc17 v0])] .normal Q):Wp Tryz.prog 220 F0 w0 [(0,.row 1000000),(1,vi v1),(2,vi v2),(3,vi v3),(4,.fn 137 []),(18,vi v18),(19,vi v19),(140,vb v140)] [(1000000,120,[rc17 v0])] (cB (cA (cB (cB (cB (cB (cB (cF Tryz.f176)))))))) Q:=by
 unfold slices_symMergeCmpFunc_api_Container__r0__view_sorted_1_j5 at h
 refine cn h (fun h=>?_) (fun h=>?_)
 ·refine Wp.seq (rg [0,1,2,3,4,18,19,20] [1000000] [(0,.row 1000000),(1,vi v1),(2,vi v2),(3,vi v3),(4,.fn 137 []),(18,vi v18),(19,vi v19),(20,vi (ex34 v19 v3))] [(1000000,120,[rc17 v0])] (To.thenN (rg [0,1,2,3,4,18,19,20,21] [1000000] [(0,.row 1000000),(1,vi v1),(2,vi v2),(3,vi v3),(4,.fn 137 []),(18,vi v18),(19,vi v19),(20,vi (ex34 v19 v3)),(21,vi v18)] [(1000000,120,[rc17 v0])] (kt [0,1,2,3,4,18,19,20,21] [1000000] [(0,.row 1000000),(1,vi v1),(2,vi v2),(3,vi v3),(4,.fn 137 []),(18,vi v18),(19,vi v19),(20,vi (ex34 v19 v3)),(21,vi v18)] [(1000000,120,[rc17 v0])] ?_))))
  cases h
  exact hQ
 ·refine Wp.seq (rg [0,1,2,3,4,18,19,20] [1000000] [(0,.row 1000000),(1,vi v1),(2,vi v2),(3,vi v3),(4,.fn 137 []),(18,vi v18),(19,vi v19),(20,vi v1)] [(1000000,120,[rc17 v0])] (To.thenN (rg [0,1,2,3,4,18,19,20,21] [1000000] [(0,.row 1000000),(1,vi v1),(2,vi v2),(3,vi v3),(4,.fn 137 []),(18,vi v18),(19,vi v19),(20,vi v1),(21,vi v2)] [(1000000,120,[rc17 v0])] (kt [0,1,2,3,4,18,19,20,21] [1000000] [(0,.row 1000000),(1,vi v1),(2,vi v2),(3,vi v3),(4,.fn 137 []),(18,vi v18),(19,vi v19),(20,vi v1),(21,vi v2)] [(1000000,120,[rc17 v0])] ?_))))
  cases h
  exact hQ
def slices_symMergeCmpFunc_api_Container__r0__view_sorted_1_l6 (R_slices_symMergeCmpFunc_api_Container__r0__view_sorted_1:Int → Int → Int → (List (S_api_Container)) → Option ((List (S_api_Container)))) (n:Nat) (v0:List (S_api_Container)) (v1:Int) (v2:Int) (v3:Int) (v18:Int) (v19:Int) (v22:Int):Nat → Int → Int → Option (Int)
 | 0,_,_=>none
 | k + 1,v20,v21=>if (decide (v20 < v21)) = true then (if (decide (0 ≤ (1:Int))) = true then (lett ((IntKind.wrap .i64 ((Int.fdiv (IntKind.wrap .u64 ((IntKind.wrap .i64 (v20 + v21)))) (2 ^ (min (Int.toNat 1) (IntKind.bits .u64)))))):Int) fun x7 =>
 if (decide (0 ≤ (IntKind.wrap .i64 (v22 - x7)) ∧ (IntKind.wrap .i64 (v22 - x7)) < (List.length v0:Int))) = true then (if (decide (0 ≤ x7 ∧ x7 < (List.length v0:Int))) = true then ((view_sorted_1 n ((v0)[Int.toNat (IntKind.wrap .i64 (v22 - x7))]?.getD Z_api_Container) ((v0)[Int.toNat x7]?.getD Z_api_Container)).bind fun r8 =>
 if (!(decide (r8 < 0))) = true then (slices_symMergeCmpFunc_api_Container__r0__view_sorted_1_l6 R_slices_symMergeCmpFunc_api_Container__r0__view_sorted_1 n v0 v1 v2 v3 v18 v19 v22 k (IntKind.wrap .i64 (x7 + 1)) v21)
 else (slices_symMergeCmpFunc_api_Container__r0__view_sorted_1_l6 R_slices_symMergeCmpFunc_api_Container__r0__view_sorted_1 n v0 v1 v2 v3 v18 v19 v22 k v20 x7)) else none) else none) else none)
 else some v20
theorem ok_slices_symMergeCmpFunc_api_Container__r0__view_sorted_1_l6 (R_slices_symMergeCmpFunc_api_Container__r0__view_sorted_1:Int → Int → Int → (List (S_api_Container)) → Option ((List (S_api_Container)))) (hR_slices_symMergeCmpFunc_api_Container__r0__view_sorted_1:hR32 R_slices_symMergeCmpFunc_api_Container__r0__view_sorted_1) (n:Nat) (v0:List (S_api_Container)) (v1:Int) (v2:Int) (v3:Int) (v18:Int) (v19:Int) (v22:Int) {F0:Fz} {w0:Pt Tryz.prog} {Q:Exit → Act → World → Prop} (k:Nat):∀ (v20:Int) (v21:Int) (o:Int),slices_symMergeCmpFunc_api_Container__r0__view_sorted_1_l6 R_slices_symMergeCmpFunc_api_Container__r0__view_sorted_1 n v0 v1 v2 v3 v18 v19 v22 k v20 v21 = some o → To 220 F0 w0 [(0,.row 1000000),(1,vi v1),(2,vi v2),(3,vi v3),(4,.fn 137 []),(18,vi v18),(19,vi v19),(20,vi o)] [(1000000,120,[rc17 v0])] (.exit 8) Q → WL Tryz.prog 220 F0 w0 [(0,.row 1000000),(1,vi v1),(2,vi v2),(3,vi v3),(4,.fn 137 []),(18,vi v18),(19,vi v19),(20,vi v20),(21,vi v21),(22,vi v22)] [(1000000,120,[rc17 v0])] (cI (cI (cA (cB (cB (cB (cB (cB (cB (cB (cF Tryz.f176))))))))))) Q:=by
 induction k with
 | zero=>intro v20 v21 o h; cases h
 | succ k ih =>
  intro v20 v21 o h hQ
  rw [slices_symMergeCmpFunc_api_Container__r0__view_sorted_1_l6] at h
  refine WL.round (Wp.seq (Wp.seq (rg [0,1,2,3,4,18,19,20,21,22,151] [1000000] [(0,.row 1000000),(1,vi v1),(2,vi v2),(3,vi v3),(4,.fn 137 []),(18,vi v18),(19,vi v19),(20,vi v20),(21,vi v21),(22,vi v22),(151,vb (decide (v20 < v21)))] [(1000000,120,[rc17 v0])] (To.thenN (cn h (fun h=>?_) (fun h=>?_))))))
  ·refine Wp.skip (To.thenN (Wp.block (Wp.seq ?_)))
   obtain ⟨hc11,h⟩:=chk_of h
   obtain ⟨x7,hx7,h⟩:=lett_of h
   refine r0 [0,1,2,3,4,18,19,20,21,22,23] [1000000] [(0,.row 1000000),(1,vi v1),(2,vi v2),(3,vi v3),(4,.fn 137 []),(18,vi v18),(19,vi v19),(20,vi v20),(21,vi v21),(22,vi v22),(23,vi (ex51 v20 v21))] [(1000000,120,[rc17 v0])] (AllP.cons hc11 AllP.nil) (To.eq (K':=[(0,.row 1000000),(1,vi v1),(2,vi v2),(3,vi v3),(4,.fn 137 []),(18,vi v18),(19,vi v19),(20,vi v20),(21,vi v21),(22,vi v22),(23,vi x7)]) (L':=[(1000000,120,[rc17 v0])]) (by cases hx7; rfl) (by cases hx7; rfl) (To.thenN (Wp.seq ?_)))
   obtain ⟨hc9,h⟩:=chk_of h
   obtain ⟨hc10,h⟩:=chk_of h
   obtain ⟨r8,hr8,h⟩:=bind_of h
   refine Wp.regionD hm hΓ [(11,vi r8)] [0,1,2,3,4,18,19,20,21,22,23,171] [1000000] (K':=[(0,.row 1000000),(1,vi v1),(2,vi v2),(3,vi v3),(4,.fn 137 []),(18,vi v18),(19,vi v19),(20,vi v20),(21,vi v21),(22,vi v22),(23,vi x7),(171,vb (!(decide (r8 < 0))))]) (L':=[(1000000,120,[rc17 v0])]) (ob:=[(decide (0 ≤ (IntKind.wrap .i64 (v22 - x7)) ∧ (IntKind.wrap .i64 (v22 - x7)) < (List.length v0:Int))) = true,(decide (0 ≤ (IntKind.wrap .i64 (v22 - x7)) ∧ (IntKind.wrap .i64 (v22 - x7)) < (List.length v0:Int))) = true,(decide (0 ≤ x7 ∧ x7 < (List.length v0:Int))) = true,(decide (0 ≤ x7 ∧ x7 < (List.length v0:Int))) = true,(true = true → CX Tryz.prog 137 [.agg [vi (((v0)[Int.toNat (IntKind.wrap .i64 (v22 - x7))]?.getD Z_api_Container).f_Id),.str (((v0)[Int.toNat (IntKind.wrap .i64 (v22 - x7))]?.getD Z_api_Container).f_Spec.f_Name),.str (((v0)[Int.toNat (IntKind.wrap .i64 (v22 - x7))]?.getD Z_api_Container).f_Spec.f_Project),.str (((v0)[Int.toNat (IntKind.wrap .i64 (v22 - x7))]?.getD Z_api_Container).f_Spec.f_Service),vi (((v0)[Int.toNat (IntKind.wrap .i64 (v22 - x7))]?.getD Z_api_Container).f_Spec.f_Number),.str (((v0)[Int.toNat (IntKind.wrap .i64 (v22 - x7))]?.getD Z_api_Container).f_Spec.f_Hash),ls (((v0)[Int.toNat (IntKind.wrap .i64 (v22 - x7))]?.getD Z_api_Container).f_Spec.f_Nets),ls (((v0)[Int.toNat (IntKind.wrap .i64 (v22 - x7))]?.getD Z_api_Container).f_Spec.f_Vols),.str (((v0)[Int.toNat (IntKind.wrap .i64 (v22 - x7))]?.getD Z_api_Container).f_Spec.f_Health.f_Test),vi (((v0)[Int.toNat (IntKind.wrap .i64 (v22 - x7))]?.getD Z_api_Container).f_Spec.f_Health.f_Every),vi (((v0)[Int.toNat (IntKind.wrap .i64 (v22 - x7))]?.getD Z_api_Container).f_Spec.f_Health.f_Start),vi (((v0)[Int.toNat (IntKind.wrap .i64 (v22 - x7))]?.getD Z_api_Container).f_Spec.f_Health.f_Retries),vi (((v0)[Int.toNat (IntKind.wrap .i64 (v22 - x7))]?.getD Z_api_Container).f_Spec.f_Restart),vi (((v0)[Int.toNat (IntKind.wrap .i64 (v22 - x7))]?.getD Z_api_Container).f_Spec.f_Tries),vi (((v0)[Int.toNat (IntKind.wrap .i64 (v22 - x7))]?.getD Z_api_Container).f_State),vi (((v0)[Int.toNat (IntKind.wrap .i64 (v22 - x7))]?.getD Z_api_Container).f_Code),vi (((v0)[Int.toNat (IntKind.wrap .i64 (v22 - x7))]?.getD Z_api_Container).f_Health),vi (((v0)[Int.toNat (IntKind.wrap .i64 (v22 - x7))]?.getD Z_api_Container).f_Runs)],.agg [vi (((v0)[Int.toNat x7]?.getD Z_api_Container).f_Id),.str (((v0)[Int.toNat x7]?.getD Z_api_Container).f_Spec.f_Name),.str (((v0)[Int.toNat x7]?.getD Z_api_Container).f_Spec.f_Project),.str (((v0)[Int.toNat x7]?.getD Z_api_Container).f_Spec.f_Service),vi (((v0)[Int.toNat x7]?.getD Z_api_Container).f_Spec.f_Number),.str (((v0)[Int.toNat x7]?.getD Z_api_Container).f_Spec.f_Hash),ls (((v0)[Int.toNat x7]?.getD Z_api_Container).f_Spec.f_Nets),ls (((v0)[Int.toNat x7]?.getD Z_api_Container).f_Spec.f_Vols),.str (((v0)[Int.toNat x7]?.getD Z_api_Container).f_Spec.f_Health.f_Test),vi (((v0)[Int.toNat x7]?.getD Z_api_Container).f_Spec.f_Health.f_Every),vi (((v0)[Int.toNat x7]?.getD Z_api_Container).f_Spec.f_Health.f_Start),vi (((v0)[Int.toNat x7]?.getD Z_api_Container).f_Spec.f_Health.f_Retries),vi (((v0)[Int.toNat x7]?.getD Z_api_Container).f_Spec.f_Restart),vi (((v0)[Int.toNat x7]?.getD Z_api_Container).f_Spec.f_Tries),vi (((v0)[Int.toNat x7]?.getD Z_api_Container).f_State),vi (((v0)[Int.toNat x7]?.getD Z_api_Container).f_Code),vi (((v0)[Int.toNat x7]?.getD Z_api_Container).f_Health),vi (((v0)[Int.toNat x7]?.getD Z_api_Container).f_Runs)]] (vi r8))]) (by kernel_rfl) (AllP.cons hc9 (AllP.cons hc9 (AllP.cons hc10 (AllP.cons hc10 (AllP.cons (fun _=>cx (ok_view_sorted_1 n ((v0)[Int.toNat (IntKind.wrap .i64 (v22 - x7))]?.getD Z_api_Container) ((v0)[Int.toNat x7]?.getD Z_api_Container) _ hr8)) AllP.nil))))) (To.thenN (cn h (fun h=>?_) (fun h=>?_)))
   ·refine rg [0,1,2,3,4,18,19,20,21,22] [1000000] [(0,.row 1000000),(1,vi v1),(2,vi v2),(3,vi v3),(4,.fn 137 []),(18,vi v18),(19,vi v19),(20,vi (IntKind.wrap .i64 (x7 + 1))),(21,vi v21),(22,vi v22)] [(1000000,120,[rc17 v0])] (To.blockN (To.again ?_))
    exact ih (IntKind.wrap .i64 (x7 + 1)) v21 _ h hQ
   ·refine rg [0,1,2,3,4,18,19,20,21,22] [1000000] [(0,.row 1000000),(1,vi v1),(2,vi v2),(3,vi v3),(4,.fn 137 []),(18,vi v18),(19,vi v19),(20,vi v20),(21,vi x7),(22,vi v22)] [(1000000,120,[rc17 v0])] (To.blockN (To.again ?_))
    exact ih v20 x7 _ h hQ
  ·refine Wp.exit (To.thenX (To.thenX (kt [0,1,2,3,4,18,19,20] [1000000] [(0,.row 1000000),(1,vi v1),(2,vi v2),(3,vi v3),(4,.fn 137 []),(18,vi v18),(19,vi v19),(20,vi v20)] [(1000000,120,[rc17 v0])] ?_)))
   cases h
   exact hQ
def slices_symMergeCmpFunc_api_Container__r0__view_sorted_1_j7 (R_slices_symMergeCmpFunc_api_Container__r0__view_sorted_1:Int → Int → Int → (List (S_api_Container)) → Option ((List (S_api_Container)))) (n:Nat) (v0:List (S_api_Container)) (v1:Int) (v2:Int) (v3:Int) (v18:Int) (v20:Int) (v24:Int) (v185:Bool):Option ((List (S_api_Container))) :=
 if v185 = true then ((slices_rotateCmpFunc_api_Container__r0__view_sorted_1 n v20 v2 v24 v0).bind fun r8 =>
 some r8)
 else some v0
theorem ok_slices_symMergeCmpFunc_api_Container__r0__view_sorted_1_j7 (R_slices_symMergeCmpFunc_api_Container__r0__view_sorted_1:Int → Int → Int → (List (S_api_Container)) → Option ((List (S_api_Container)))) (hR_slices_symMergeCmpFunc_api_Container__r0__view_sorted_1:hR32 R_slices_symMergeCmpFunc_api_Container__r0__view_sorted_1) (n:Nat) (v0:List (S_api_Container)) (v1:Int) (v2:Int) (v3:Int) (v18:Int) (v20:Int) (v24:Int) (v185:Bool) (o:(List (S_api_Container))) (h:slices_symMergeCmpFunc_api_Container__r0__view_sorted_1_j7 R_slices_symMergeCmpFunc_api_Container__r0__view_sorted_1 n v0 v1 v2 v3 v18 v20 v24 v185 = some o) {F0:Fz} {w0:Pt Tryz.prog} {Q:Exit → Act → World → Prop} (hQ:To 220 F0 w0 [(0,.row 1000000),(1,vi v1),(3,vi v3),(4,.fn 137 []),(18,vi v18),(20,vi v20),(24,vi v24)] [(1000000,120,[rc17 o])] .normal Q):Wp Tryz.prog 220 F0 w0 [(0,.row 1000000),(1,vi v1),(2,vi v2),(3,vi v3),(4,.fn 137 []),(18,vi v18),(20,vi v20),(24,vi v24),(185,vb v185)] [(1000000,120,[rc17 v0])] (cB (cA (cB (cB (cB (cB (cB (cB (cB (cB (cB (cF Tryz.f176)))))))))))) Q:=by
 unfold slices_symMergeCmpFunc_api_Container__r0__view_sorted_1_j7 at h
 refine cn h (fun h=>?_) (fun h=>?_)
 ·obtain ⟨r8,hr8,h⟩:=bind_of h
  refine rb [] 5 ⟨[(1000000,1000000)],[(1000000,1000000)],[.row 1000000,vi v20,vi v2,vi v24,.fn 137 []],[(1000000,120,[rc17 v0])],.tup [],[(1000000,120,[rc17 r8])]⟩ [0,1,3,4,18,20,24] [1000000] [(0,.row 1000000),(1,vi v1),(3,vi v3),(4,.fn 137 []),(18,vi v18),(20,vi v20),(24,vi v24)] [(1000000,120,[rc17 r8])] ((ok_slices_rotateCmpFunc_api_Container__r0__view_sorted_1 n v20 v2 v24 v0 _ hr8)) (kt [0,1,3,4,18,20,24] [1000000] [(0,.row 1000000),(1,vi v1),(3,vi v3),(4,.fn 137 []),(18,vi v18),(20,vi v20),(24,vi v24)] [(1000000,120,[rc17 r8])] ?_)
  cases h
  exact hQ
 ·refine Wp.skip (kt [0,1,3,4,18,20,24] [1000000] [(0,.row 1000000),(1,vi v1),(3,vi v3),(4,.fn 137 []),(18,vi v18),(20,vi v20),(24,vi v24)] [(1000000,120,[rc17 v0])] ?_)
  cases h
  exact hQ
def slices_symMergeCmpFunc_api_Container__r0__view_sorted_1_j8 (R_slices_symMergeCmpFunc_api_Container__r0__view_sorted_1:Int → Int → Int → (List (S_api_Container)) → Option ((List (S_api_Container)))) (n:Nat) (v0:List (S_api_Container)) (v1:Int) (v3:Int) (v18:Int) (v20:Int) (v24:Int) (v199:Bool):Option ((List (S_api_Container))) :=
 if v199 = true then ((R_slices_symMergeCmpFunc_api_Container__r0__view_sorted_1 v1 v20 v18 v0).bind fun r9 =>
 some r9)
 else some v0
theorem ok_slices_symMergeCmpFunc_api_Container__r0__view_sorted_1_j8 (R_slices_symMergeCmpFunc_api_Container__r0__view_sorted_1:Int → Int → Int → (List (S_api_Container)) → Option ((List (S_api_Container)))) (hR_slices_symMergeCmpFunc_api_Container__r0__view_sorted_1:hR32 R_slices_symMergeCmpFunc_api_Container__r0__view_sorted_1) (n:Nat) (v0:List (S_api_Container)) (v1:Int) (v3:Int) (v18:Int) (v20:Int) (v24:Int) (v199:Bool) (o:(List (S_api_Container))) (h:slices_symMergeCmpFunc_api_Container__r0__view_sorted_1_j8 R_slices_symMergeCmpFunc_api_Container__r0__view_sorted_1 n v0 v1 v3 v18 v20 v24 v199 = some o) {F0:Fz} {w0:Pt Tryz.prog} {Q:Exit → Act → World → Prop} (hQ:To 220 F0 w0 [(0,.row 1000000),(3,vi v3),(4,.fn 137 []),(18,vi v18),(24,vi v24)] [(1000000,120,[rc17 o])] .normal Q):Wp Tryz.prog 220 F0 w0 [(0,.row 1000000),(1,vi v1),(3,vi v3),(4,.fn 137 []),(18,vi v18),(20,vi v20),(24,vi v24),(199,vb v199)] [(1000000,120,[rc17 v0])] (cB (cA (cB (cB (cB (cB (cB (cB (cB (cB (cB (cB (cF Tryz.f176))))))))))))) Q:=by
 unfold slices_symMergeCmpFunc_api_Container__r0__view_sorted_1_j8 at h
 refine cn h (fun h=>?_) (fun h=>?_)
 ·obtain ⟨r9,hr9,h⟩:=bind_of h
  refine rb [] 5 ⟨[(1000000,1000000)],[(1000000,1000000)],[.row 1000000,vi v1,vi v20,vi v18,.fn 137 []],[(1000000,120,[rc17 v0])],.tup [],[(1000000,120,[rc17 r9])]⟩ [0,3,4,18,24] [1000000] [(0,.row 1000000),(3,vi v3),(4,.fn 137 []),(18,vi v18),(24,vi v24)] [(1000000,120,[rc17 r9])] ((hR_slices_symMergeCmpFunc_api_Container__r0__view_sorted_1 v1 v20 v18 v0 _ hr9)) (kt [0,3,4,18,24] [1000000] [(0,.row 1000000),(3,vi v3),(4,.fn 137 []),(18,vi v18),(24,vi v24)] [(1000000,120,[rc17 r9])] ?_)
  cases h
  exact hQ
 ·refine Wp.skip (kt [0,3,4,18,24] [1000000] [(0,.row 1000000),(3,vi v3),(4,.fn 137 []),(18,vi v18),(24,vi v24)] [(1000000,120,[rc17 v0])] ?_)
  cases h
  exact hQ
def slices_symMergeCmpFunc_api_Container__r0__view_sorted_1_b (R_slices_symMergeCmpFunc_api_Container__r0__view_sorted_1:Int → Int → Int → (List (S_api_Container)) → Option ((List (S_api_Container)))) (n:Nat) (a1:Int) (a2:Int) (a3:Int) (h0:List (S_api_Container)):Option ((List (S_api_Container))) :=
 if ((IntKind.wrap .i64 (a2 - a1)) == 1) = true then ((slices_symMergeCmpFunc_api_Container__r0__view_sorted_1_l1 R_slices_symMergeCmpFunc_api_Container__r0__view_sorted_1 n h0 a1 n a2 a3).bind fun o1 =>
 (slices_symMergeCmpFunc_api_Container__r0__view_sorted_1_l2 R_slices_symMergeCmpFunc_api_Container__r0__view_sorted_1 n o1 n h0 a1).bind fun o2 =>
 some o2)
 else (if ((IntKind.wrap .i64 (a3 - a2)) == 1) = true then ((slices_symMergeCmpFunc_api_Container__r0__view_sorted_1_l3 R_slices_symMergeCmpFunc_api_Container__r0__view_sorted_1 n h0 a2 n a1 a2).bind fun o3 =>
 (slices_symMergeCmpFunc_api_Container__r0__view_sorted_1_l4 R_slices_symMergeCmpFunc_api_Container__r0__view_sorted_1 n o3 n h0 a2).bind fun o4 =>
 some o4)
 else (if (decide (0 ≤ (1:Int))) = true then (lett ((IntKind.wrap .i64 ((Int.fdiv (IntKind.wrap .u64 ((IntKind.wrap .i64 (a1 + a3)))) (2 ^ (min (Int.toNat 1) (IntKind.bits .u64)))))):Int) fun x5 =>
 (slices_symMergeCmpFunc_api_Container__r0__view_sorted_1_j5 R_slices_symMergeCmpFunc_api_Container__r0__view_sorted_1 n h0 a1 a2 a3 x5 (IntKind.wrap .i64 (x5 + a2)) (decide (a2 > x5))).bind fun o6 =>
 (slices_symMergeCmpFunc_api_Container__r0__view_sorted_1_l6 R_slices_symMergeCmpFunc_api_Container__r0__view_sorted_1 n h0 a1 a2 a3 x5 (IntKind.wrap .i64 (x5 + a2)) (IntKind.wrap .i64 ((IntKind.wrap .i64 (x5 + a2)) - 1)) n o6.1 o6.2).bind fun o7 =>
 (slices_symMergeCmpFunc_api_Container__r0__view_sorted_1_j7 R_slices_symMergeCmpFunc_api_Container__r0__view_sorted_1 n h0 a1 a2 a3 x5 o7 (IntKind.wrap .i64 ((IntKind.wrap .i64 (x5 + a2)) - o7)) (bif (decide (o7 < a2)) then (decide (a2 < (IntKind.wrap .i64 ((IntKind.wrap .i64 (x5 + a2)) - o7)))) else false)).bind fun o8 =>
 (slices_symMergeCmpFunc_api_Container__r0__view_sorted_1_j8 R_slices_symMergeCmpFunc_api_Container__r0__view_sorted_1 n o8 a1 a3 x5 o7 (IntKind.wrap .i64 ((IntKind.wrap .i64 (x5 + a2)) - o7)) (bif (decide (a1 < o7)) then (decide (o7 < x5)) else false)).bind fun o9 =>
 lett ((bif (decide (x5 < (IntKind.wrap .i64 ((IntKind.wrap .i64 (x5 + a2)) - o7)))) then (decide ((IntKind.wrap .i64 ((IntKind.wrap .i64 (x5 + a2)) - o7)) < a3)) else false):Bool) fun x10 =>
 if x10 = true then ((R_slices_symMergeCmpFunc_api_Container__r0__view_sorted_1 x5 (IntKind.wrap .i64 ((IntKind.wrap .i64 (x5 + a2)) - o7)) a3 o9).bind fun r11 =>
 some r11)
 else some o9) else none))
abbrev ex36 (x0:Int) (x1:Int):=(IntKind.wrap .i64 ((Int.fdiv (IntKind.wrap .u64 ((IntKind.wrap .i64 (x0 + x1)))) (2 ^ (min (Int.toNat 1) (IntKind.bits .u64))))))
theorem ok_slices_symMergeCmpFunc_api_Container__r0__view_sorted_1_b (R_slices_symMergeCmpFunc_api_Container__r0__view_sorted_1:Int → Int → Int → (List (S_api_Container)) → Option ((List (S_api_Container)))) (hR_slices_symMergeCmpFunc_api_Container__r0__view_sorted_1:hR32 R_slices_symMergeCmpFunc_api_Container__r0__view_sorted_1) (n:Nat) (a1:Int) (a2:Int) (a3:Int) (h0:List (S_api_Container)) (r:(List (S_api_Container))) (h:slices_symMergeCmpFunc_api_Container__r0__view_sorted_1_b R_slices_symMergeCmpFunc_api_Container__r0__view_sorted_1 n a1 a2 a3 h0 = some r):CallsB Tryz.prog 176 [.row 1000000,vi a1,vi a2,vi a3,.fn 137 []] [(1000000,120,[rc17 h0])] (.tup []) [(1000000,120,[rc17 r])]:=by
 unfold slices_symMergeCmpFunc_api_Container__r0__view_sorted_1_b at h
 refine bo Tryz.f176 rfl fun F0 w0=>?_
 refine Wp.seq (Wp.seq (rg [0,1,2,3,4,28] [1000000] [(0,.row 1000000),(1,vi a1),(2,vi a2),(3,vi a3),(4,.fn 137 []),(28,vb ((IntKind.wrap .i64 (a2 - a1)) == 1))] [(1000000,120,[rc17 h0])] (To.thenN (cn h (fun h=>?_) (fun h=>?_)))))
 ·refine Wp.seq (rg [0,1,3,4,10] [1000000] [(0,.row 1000000),(1,vi a1),(3,vi a3),(4,.fn 137 []),(10,vi a2)] [(1000000,120,[rc17 h0])] (To.thenN (Wp.seq (rg [0,1,4,10,11] [1000000] [(0,.row 1000000),(1,vi a1),(4,.fn 137 []),(10,vi a2),(11,vi a3)] [(1000000,120,[rc17 h0])] (To.thenN (Wp.seq (Wp.block ?_)))))))
  obtain ⟨o1,ho1,h⟩:=bind_of h
  refine kw [0,1,4,10,11] [1000000] [(0,.row 1000000),(1,vi a1),(4,.fn 137 []),(10,vi a2),(11,vi a3)] [(1000000,120,[rc17 h0])] (Wp.loopL (ok_slices_symMergeCmpFunc_api_Container__r0__view_sorted_1_l1 R_slices_symMergeCmpFunc_api_Container__r0__view_sorted_1 hR_slices_symMergeCmpFunc_api_Container__r0__view_sorted_1 n h0 a1 n a2 a3 o1 ho1 (To.blockX (To.thenN (Wp.seq (Wp.seq (rg [0,10,13] [1000000] [(0,.row 1000000),(10,vi o1),(13,vi a1)] [(1000000,120,[rc17 h0])] (To.thenN (Wp.block ?_)))))))))
  obtain ⟨o2,ho2,h⟩:=bind_of h
  refine kw [0,10,13] [1000000] [(0,.row 1000000),(10,vi o1),(13,vi a1)] [(1000000,120,[rc17 h0])] (Wp.loopL (ok_slices_symMergeCmpFunc_api_Container__r0__view_sorted_1_l2 R_slices_symMergeCmpFunc_api_Container__r0__view_sorted_1 hR_slices_symMergeCmpFunc_api_Container__r0__view_sorted_1 n o1 n h0 a1 o2 ho2 (To.blockX (To.thenN (Wp.ret (To.thenR ?_))))))
  cases h
  exact To.doneB hΓ [1000000] (by kernel_rfl) (by kernel_rfl)
 ·refine Wp.skip (To.thenN (Wp.seq (Wp.seq (rg [0,1,2,3,4,80] [1000000] [(0,.row 1000000),(1,vi a1),(2,vi a2),(3,vi a3),(4,.fn 137 []),(80,vb ((IntKind.wrap .i64 (a3 - a2)) == 1))] [(1000000,120,[rc17 h0])] (To.thenN (cn h (fun h=>?_) (fun h=>?_)))))))
  ·refine Wp.seq (rg [0,2,4,14] [1000000] [(0,.row 1000000),(2,vi a2),(4,.fn 137 []),(14,vi a1)] [(1000000,120,[rc17 h0])] (To.thenN (Wp.seq (rg [0,2,4,14,15] [1000000] [(0,.row 1000000),(2,vi a2),(4,.fn 137 []),(14,vi a1),(15,vi a2)] [(1000000,120,[rc17 h0])] (To.thenN (Wp.seq (Wp.block ?_)))))))
   obtain ⟨o3,ho3,h⟩:=bind_of h
   refine kw [0,2,4,14,15] [1000000] [(0,.row 1000000),(2,vi a2),(4,.fn 137 []),(14,vi a1),(15,vi a2)] [(1000000,120,[rc17 h0])] (Wp.loopL (ok_slices_symMergeCmpFunc_api_Container__r0__view_sorted_1_l3 R_slices_symMergeCmpFunc_api_Container__r0__view_sorted_1 hR_slices_symMergeCmpFunc_api_Container__r0__view_sorted_1 n h0 a2 n a1 a2 o3 ho3 (To.blockX (To.thenN (Wp.seq (Wp.seq (rg [0,14,17] [1000000] [(0,.row 1000000),(14,vi o3),(17,vi a2)] [(1000000,120,[rc17 h0])] (To.thenN (Wp.block ?_)))))))))
   obtain ⟨o4,ho4,h⟩:=bind_of h
   refine kw [0,14,17] [1000000] [(0,.row 1000000),(14,vi o3),(17,vi a2)] [(1000000,120,[rc17 h0])] (Wp.loopL (ok_slices_symMergeCmpFunc_api_Container__r0__view_sorted_1_l4 R_slices_symMergeCmpFunc_api_Container__r0__view_sorted_1 hR_slices_symMergeCmpFunc_api_Container__r0__view_sorted_1 n o3 n h0 a2 o4 ho4 (To.blockX (To.thenN (Wp.ret (To.thenR ?_))))))
   cases h
   exact To.doneB hΓ [1000000] (by kernel_rfl) (by kernel_rfl)
  ·refine Wp.skip (To.thenN (Wp.seq ?_))
   obtain ⟨hc12,h⟩:=chk_of h
   obtain ⟨x5,hx5,h⟩:=lett_of h
   refine r0 [0,1,2,3,4,18] [1000000] [(0,.row 1000000),(1,vi a1),(2,vi a2),(3,vi a3),(4,.fn 137 []),(18,vi (ex36 a1 a3))] [(1000000,120,[rc17 h0])] (AllP.cons hc12 AllP.nil) (To.eq (K':=[(0,.row 1000000),(1,vi a1),(2,vi a2),(3,vi a3),(4,.fn 137 []),(18,vi x5)]) (L':=[(1000000,120,[rc17 h0])]) (by cases hx5; rfl) (by cases hx5; rfl) (To.thenN (Wp.seq (rg [0,1,2,3,4,18,19] [1000000] [(0,.row 1000000),(1,vi a1),(2,vi a2),(3,vi a3),(4,.fn 137 []),(18,vi x5),(19,vi (IntKind.wrap .i64 (x5 + a2)))] [(1000000,120,[rc17 h0])] (To.thenN (Wp.seq (rg [0,1,2,3,4,18,19] [1000000] [(0,.row 1000000),(1,vi a1),(2,vi a2),(3,vi a3),(4,.fn 137 []),(18,vi x5),(19,vi (IntKind.wrap .i64 (x5 + a2)))] [(1000000,120,[rc17 h0])] (To.thenN (Wp.seq (Wp.seq ?_))))))))))
   refine rg [0,1,2,3,4,18,19,140] [1000000] [(0,.row 1000000),(1,vi a1),(2,vi a2),(3,vi a3),(4,.fn 137 []),(18,vi x5),(19,vi (IntKind.wrap .i64 (x5 + a2))),(140,vb (decide (a2 > x5)))] [(1000000,120,[rc17 h0])] (To.thenN ?_)
   obtain ⟨o6,ho6,h⟩:=bind_of h
   refine kw [0,1,2,3,4,18,19,140] [1000000] [(0,.row 1000000),(1,vi a1),(2,vi a2),(3,vi a3),(4,.fn 137 []),(18,vi x5),(19,vi (IntKind.wrap .i64 (x5 + a2))),(140,vb (decide (a2 > x5)))] [(1000000,120,[rc17 h0])] (ok_slices_symMergeCmpFunc_api_Container__r0__view_sorted_1_j5 R_slices_symMergeCmpFunc_api_Container__r0__view_sorted_1 hR_slices_symMergeCmpFunc_api_Container__r0__view_sorted_1 n h0 a1 a2 a3 x5 (IntKind.wrap .i64 (x5 + a2)) (decide (a2 > x5)) o6 ho6 (To.thenN (Wp.seq (rg [0,1,2,3,4,18,19,20,21,22] [1000000] [(0,.row 1000000),(1,vi a1),(2,vi a2),(3,vi a3),(4,.fn 137 []),(18,vi x5),(19,vi (IntKind.wrap .i64 (x5 + a2))),(20,vi o6.1),(21,vi o6.2),(22,vi (IntKind.wrap .i64 ((IntKind.wrap .i64 (x5 + a2)) - 1)))] [(1000000,120,[rc17 h0])] (To.thenN (Wp.seq (Wp.block ?_)))))))
   obtain ⟨o7,ho7,h⟩:=bind_of h
   refine kw [0,1,2,3,4,18,19,20,21,22] [1000000] [(0,.row 1000000),(1,vi a1),(2,vi a2),(3,vi a3),(4,.fn 137 []),(18,vi x5),(19,vi (IntKind.wrap .i64 (x5 + a2))),(20,vi o6.1),(21,vi o6.2),(22,vi (IntKind.wrap .i64 ((IntKind.wrap .i64 (x5 + a2)) - 1)))] [(1000000,120,[rc17 h0])] (Wp.loopL (ok_slices_symMergeCmpFunc_api_Container__r0__view_sorted_1_l6 R_slices_symMergeCmpFunc_api_Container__r0__view_sorted_1 hR_slices_symMergeCmpFunc_api_Container__r0__view_sorted_1 n h0 a1 a2 a3 x5 (IntKind.wrap .i64 (x5 + a2)) (IntKind.wrap .i64 ((IntKind.wrap .i64 (x5 + a2)) - 1)) n o6.1 o6.2 o7 ho7 (To.blockX (To.thenN (Wp.seq (rg [0,1,2,3,4,18,20,24] [1000000] [(0,.row 1000000),(1,vi a1),(2,vi a2),(3,vi a3),(4,.fn 137 []),(18,vi x5),(20,vi o7),(24,vi (IntKind.wrap .i64 ((IntKind.wrap .i64 (x5 + a2)) - o7)))] [(1000000,120,[rc17 h0])] (To.thenN (Wp.seq (Wp.seq (rg [0,1,2,3,4,18,20,24,185] [1000000] [(0,.row 1000000),(1,vi a1),(2,vi a2),(3,vi a3),(4,.fn 137 []),(18,vi x5),(20,vi o7),(24,vi (IntKind.wrap .i64 ((IntKind.wrap .i64 (x5 + a2)) - o7))),(185,vb (bif (decide (o7 < a2)) then (decide (a2 < (IntKind.wrap .i64 ((IntKind.wrap .i64 (x5 + a2)) - o7)))) else false))] [(1000000,120,[rc17 h0])] ?_))))))))))
   refine To.thenN ?_
   obtain ⟨o8,ho8,h⟩:=bind_of h
   refine kw [0,1,2,3,4,18,20,24,185] [1000000] [(0,.row 1000000),(1,vi a1),(2,vi a2),(3,vi a3),(4,.fn 137 []),(18,vi x5),(20,vi o7),(24,vi (IntKind.wrap .i64 ((IntKind.wrap .i64 (x5 + a2)) - o7))),(185,vb (bif (decide (o7 < a2)) then (decide (a2 < (IntKind.wrap .i64 ((IntKind.wrap .i64 (x5 + a2)) - o7)))) else false))] [(1000000,120,[rc17 h0])] (ok_slices_symMergeCmpFunc_api_Container__r0__view_sorted_1_j7 R_slices_symMergeCmpFunc_api_Container__r0__view_sorted_1 hR_slices_symMergeCmpFunc_api_Container__r0__view_sorted_1 n h0 a1 a2 a3 x5 o7 (IntKind.wrap .i64 ((IntKind.wrap .i64 (x5 + a2)) - o7)) (bif (decide (o7 < a2)) then (decide (a2 < (IntKind.wrap .i64 ((IntKind.wrap .i64 (x5 + a2)) - o7)))) else false) o8 ho8 (To.thenN (Wp.seq (Wp.seq (rg [0,1,3,4,18,20,24,199] [1000000] [(0,.row 1000000),(1,vi a1),(3,vi a3),(4,.fn 137 []),(18,vi x5),(20,vi o7),(24,vi (IntKind.wrap .i64 ((IntKind.wrap .i64 (x5 + a2)) - o7))),(199,vb (bif (decide (a1 < o7)) then (decide (o7 < x5)) else false))] [(1000000,120,[rc17 o8])] (To.thenN ?_))))))
   obtain ⟨o9,ho9,h⟩:=bind_of h
   refine kw [0,1,3,4,18,20,24,199] [1000000] [(0,.row 1000000),(1,vi a1),(3,vi a3),(4,.fn 137 []),(18,vi x5),(20,vi o7),(24,vi (IntKind.wrap .i64 ((IntKind.wrap .i64 (x5 + a2)) - o7))),(199,vb (bif (decide (a1 < o7)) then (decide (o7 < x5)) else false))] [(1000000,120,[rc17 o8])] (ok_slices_symMergeCmpFunc_api_Container__r0__view_sorted_1_j8 R_slices_symMergeCmpFunc_api_Container__r0__view_sorted_1 hR_slices_symMergeCmpFunc_api_Container__r0__view_sorted_1 n o8 a1 a3 x5 o7 (IntKind.wrap .i64 ((IntKind.wrap .i64 (x5 + a2)) - o7)) (bif (decide (a1 < o7)) then (decide (o7 < x5)) else false) o9 ho9 (To.thenN (Wp.seq ?_)))
   obtain ⟨x10,hx10,h⟩:=lett_of h
   refine rg [0,3,4,18,24,213] [1000000] [(0,.row 1000000),(3,vi a3),(4,.fn 137 []),(18,vi x5),(24,vi (IntKind.wrap .i64 ((IntKind.wrap .i64 (x5 + a2)) - o7))),(213,vb (bif (decide (x5 < (IntKind.wrap .i64 ((IntKind.wrap .i64 (x5 + a2)) - o7)))) then (decide ((IntKind.wrap .i64 ((IntKind.wrap .i64 (x5 + a2)) - o7)) < a3)) else false))] [(1000000,120,[rc17 o9])] (To.eq (K':=[(0,.row 1000000),(3,vi a3),(4,.fn 137 []),(18,vi x5),(24,vi (IntKind.wrap .i64 ((IntKind.wrap .i64 (x5 + a2)) - o7))),(213,vb x10)]) (L':=[(1000000,120,[rc17 o9])]) (by cases hx10; rfl) (by cases hx10; rfl) (To.thenN (cn h (fun h=>?_) (fun h=>?_))))
   ·obtain ⟨r11,hr11,h⟩:=bind_of h
    refine rb [] 5 ⟨[(1000000,1000000)],[(1000000,1000000)],[.row 1000000,vi x5,vi (IntKind.wrap .i64 ((IntKind.wrap .i64 (x5 + a2)) - o7)),vi a3,.fn 137 []],[(1000000,120,[rc17 o9])],.tup [],[(1000000,120,[rc17 r11])]⟩ [] [1000000] [] [(1000000,120,[rc17 r11])] ((hR_slices_symMergeCmpFunc_api_Container__r0__view_sorted_1 x5 (IntKind.wrap .i64 ((IntKind.wrap .i64 (x5 + a2)) - o7)) a3 o9 _ hr11)) (To.fin ?_)
    cases h
    exact To.doneB hΓ [1000000] (by kernel_rfl) (by kernel_rfl)
   ·refine Wp.skip (To.fin ?_)
    cases h
    exact To.doneB hΓ [1000000] (by kernel_rfl) (by kernel_rfl)
def slices_symMergeCmpFunc_api_Container__r0__view_sorted_1:Nat → Int → Int → Int → (List (S_api_Container)) → Option ((List (S_api_Container)))
 | 0=>fun _ _ _ _=>none
 | n + 1=>slices_symMergeCmpFunc_api_Container__r0__view_sorted_1_b (slices_symMergeCmpFunc_api_Container__r0__view_sorted_1 n) n
theorem ok_slices_symMergeCmpFunc_api_Container__r0__view_sorted_1 (n:Nat):∀ (a1:Int) (a2:Int) (a3:Int) (h0:List (S_api_Container)) (r:(List (S_api_Container))),slices_symMergeCmpFunc_api_Container__r0__view_sorted_1 n a1 a2 a3 h0 = some r → CallsB Tryz.prog 176 [.row 1000000,vi a1,vi a2,vi a3,.fn 137 []] [(1000000,120,[rc17 h0])] (.tup []) [(1000000,120,[rc17 r])]:=by
 induction n with
 | zero=>intro a1 a2 a3 h0 r h; cases h
 | succ n ih=>exact fun a1 a2 a3 h0 r h=>ok_slices_symMergeCmpFunc_api_Container__r0__view_sorted_1_b (slices_symMergeCmpFunc_api_Container__r0__view_sorted_1 n) ih n a1 a2 a3 h0 r h
def slices_stableCmpFunc_api_Container__r0__view_sorted_1_l1 (n:Nat) (v1:Int) (v6:Int):Nat → (List (S_api_Container)) → Int → Int → Option ((List (S_api_Container)) × Int)
 | 0,_,_,_=>none
 | k + 1,v0,v7,v8=>if (decide (v8 ≤ v1)) = true then ((slices_insertionSortCmpFunc_api_Container__r0__view_sorted_1 n v7 v8 v0).bind fun r1 =>
 slices_stableCmpFunc_api_Container__r0__view_sorted_1_l1 n v1 v6 k r1 v8 (IntKind.wrap .i64 (v8 + v6)))
 else (some (v0,v7))
theorem ok_slices_stableCmpFunc_api_Container__r0__view_sorted_1_l1 (n:Nat) (v1:Int) (v6:Int) {F0:Fz} {w0:Pt Tryz.prog} {Q:Exit → Act → World → Prop} (k:Nat):∀ (v0:List (S_api_Container)) (v7:Int) (v8:Int) (o:(List (S_api_Container)) × Int),slices_stableCmpFunc_api_Container__r0__view_sorted_1_l1 n v1 v6 k v0 v7 v8 = some o → To 63 F0 w0 [(0,.row 1000000),(1,vi v1),(2,.fn 137 []),(6,vi v6),(7,vi o.2)] [(1000000,120,[rc17 o.1])] (.exit 0) Q → WL Tryz.prog 63 F0 w0 [(0,.row 1000000),(1,vi v1),(2,.fn 137 []),(6,vi v6),(7,vi v7),(8,vi v8)] [(1000000,120,[rc17 v0])] (cI (cI (cA (cB (cB (cF Tryz.f158)))))) Q:=by
 induction k with
 | zero=>intro v0 v7 v8 o h; cases h
 | succ k ih =>
  intro v0 v7 v8 o h hQ
  rw [slices_stableCmpFunc_api_Container__r0__view_sorted_1_l1] at h
  refine WL.round (Wp.seq (Wp.seq (rg [0,1,2,6,7,8,13] [1000000] [(0,.row 1000000),(1,vi v1),(2,.fn 137 []),(6,vi v6),(7,vi v7),(8,vi v8),(13,vb (decide (v8 ≤ v1)))] [(1000000,120,[rc17 v0])] (To.thenN (cn h (fun h=>?_) (fun h=>?_))))))
  ·refine Wp.skip (To.thenN (Wp.block (Wp.seq ?_)))
   obtain ⟨r1,hr1,h⟩:=bind_of h
   refine rb [] 4 ⟨[(1000000,1000000)],[(1000000,1000000)],[.row 1000000,vi v7,vi v8,.fn 137 []],[(1000000,120,[rc17 v0])],.tup [],[(1000000,120,[rc17 r1])]⟩ [0,1,2,6,8] [1000000] [(0,.row 1000000),(1,vi v1),(2,.fn 137 []),(6,vi v6),(8,vi v8)] [(1000000,120,[rc17 r1])] ((ok_slices_insertionSortCmpFunc_api_Container__r0__view_sorted_1 n v7 v8 v0 _ hr1)) (To.thenN (Wp.seq (rg [0,1,2,6,7,8] [1000000] [(0,.row 1000000),(1,vi v1),(2,.fn 137 []),(6,vi v6),(7,vi v8),(8,vi v8)] [(1000000,120,[rc17 r1])] (To.thenN (rg [0,1,2,6,7,8] [1000000] [(0,.row 1000000),(1,vi v1),(2,.fn 137 []),(6,vi v6),(7,vi v8),(8,vi (IntKind.wrap .i64 (v8 + v6)))] [(1000000,120,[rc17 r1])] (To.blockN (To.again ?_)))))))
   exact ih r1 v8 (IntKind.wrap .i64 (v8 + v6)) _ h hQ
  ·refine Wp.exit (To.thenX (To.thenX (kt [0,1,2,6,7] [1000000] [(0,.row 1000000),(1,vi v1),(2,.fn 137 []),(6,vi v6),(7,vi v7)] [(1000000,120,[rc17 v0])] ?_)))
   cases h
   exact hQ
def slices_stableCmpFunc_api_Container__r0__view_sorted_1_l3 (n:Nat) (v1:Int) (v6:Int):Nat → (List (S_api_Container)) → Int → Int → Option ((List (S_api_Container)) × Int)
 | 0,_,_,_=>none
 | k + 1,v0,v7,v8=>if (decide (v8 ≤ v1)) = true then ((slices_symMergeCmpFunc_api_Container__r0__view_sorted_1 n v7 (IntKind.wrap .i64 (v7 + v6)) v8 v0).bind fun r3 =>
 slices_stableCmpFunc_api_Container__r0__view_sorted_1_l3 n v1 v6 k r3 v8 (IntKind.wrap .i64 (v8 + (IntKind.wrap .i64 (2 * v6)))))
 else (some (v0,v7))
theorem ok_slices_stableCmpFunc_api_Container__r0__view_sorted_1_l3 (n:Nat) (v1:Int) (v6:Int) {F0:Fz} {w0:Pt Tryz.prog} {Q:Exit → Act → World → Prop} (k:Nat):∀ (v0:List (S_api_Container)) (v7:Int) (v8:Int) (o:(List (S_api_Container)) × Int),slices_stableCmpFunc_api_Container__r0__view_sorted_1_l3 n v1 v6 k v0 v7 v8 = some o → To 63 F0 w0 [(0,.row 1000000),(1,vi v1),(2,.fn 137 []),(6,vi v6),(7,vi o.2)] [(1000000,120,[rc17 o.1])] (.exit 4) Q → WL Tryz.prog 63 F0 w0 [(0,.row 1000000),(1,vi v1),(2,.fn 137 []),(6,vi v6),(7,vi v7),(8,vi v8)] [(1000000,120,[rc17 v0])] (cI (cI (cA (cB (cI (cB (cI (cI (cB (cB (cB (cB (cF Tryz.f158))))))))))))) Q:=by
 induction k with
 | zero=>intro v0 v7 v8 o h; cases h
 | succ k ih =>
  intro v0 v7 v8 o h hQ
  rw [slices_stableCmpFunc_api_Container__r0__view_sorted_1_l3] at h
  refine WL.round (Wp.seq (Wp.seq (rg [0,1,2,6,7,8,35] [1000000] [(0,.row 1000000),(1,vi v1),(2,.fn 137 []),(6,vi v6),(7,vi v7),(8,vi v8),(35,vb (decide (v8 ≤ v1)))] [(1000000,120,[rc17 v0])] (To.thenN (cn h (fun h=>?_) (fun h=>?_))))))
  ·refine Wp.skip (To.thenN (Wp.block (Wp.seq ?_)))
   obtain ⟨r3,hr3,h⟩:=bind_of h
   refine rb [] 7 ⟨[(1000000,1000000)],[(1000000,1000000)],[.row 1000000,vi v7,vi (IntKind.wrap .i64 (v7 + v6)),vi v8,.fn 137 []],[(1000000,120,[rc17 v0])],.tup [],[(1000000,120,[rc17 r3])]⟩ [0,1,2,6,8] [1000000] [(0,.row 1000000),(1,vi v1),(2,.fn 137 []),(6,vi v6),(8,vi v8)] [(1000000,120,[rc17 r3])] ((ok_slices_symMergeCmpFunc_api_Container__r0__view_sorted_1 n v7 (IntKind.wrap .i64 (v7 + v6)) v8 v0 _ hr3)) (To.thenN (Wp.seq (rg [0,1,2,6,7,8] [1000000] [(0,.row 1000000),(1,vi v1),(2,.fn 137 []),(6,vi v6),(7,vi v8),(8,vi v8)] [(1000000,120,[rc17 r3])] (To.thenN (rg [0,1,2,6,7,8] [1000000] [(0,.row 1000000),(1,vi v1),(2,.fn 137 []),(6,vi v6),(7,vi v8),(8,vi (IntKind.wrap .i64 (v8 + (IntKind.wrap .i64 (2 * v6)))))] [(1000000,120,[rc17 r3])] (To.blockN (To.again ?_)))))))
   exact ih r3 v8 (IntKind.wrap .i64 (v8 + (IntKind.wrap .i64 (2 * v6)))) _ h hQ
  ·refine Wp.exit (To.thenX (To.thenX (kt [0,1,2,6,7] [1000000] [(0,.row 1000000),(1,vi v1),(2,.fn 137 []),(6,vi v6),(7,vi v7)] [(1000000,120,[rc17 v0])] ?_)))
   cases h
   exact hQ
def slices_stableCmpFunc_api_Container__r0__view_sorted_1_j4 (n:Nat) (v0:List (S_api_Container)) (v1:Int) (v6:Int) (v7:Int) (v9:Int) (v54:Bool):Option ((List (S_api_Container))) :=
 if v54 = true then ((slices_symMergeCmpFunc_api_Container__r0__view_sorted_1 n v7 v9 v1 v0).bind fun r4 =>
 some r4)
 else some v0
theorem ok_slices_stableCmpFunc_api_Container__r0__view_sorted_1_j4 (n:Nat) (v0:List (S_api_Container)) (v1:Int) (v6:Int) (v7:Int) (v9:Int) (v54:Bool) (o:(List (S_api_Container))) (h:slices_stableCmpFunc_api_Container__r0__view_sorted_1_j4 n v0 v1 v6 v7 v9 v54 = some o) {F0:Fz} {w0:Pt Tryz.prog} {Q:Exit → Act → World → Prop} (hQ:To 63 F0 w0 [(0,.row 1000000),(1,vi v1),(2,.fn 137 []),(6,vi v6)] [(1000000,120,[rc17 o])] .normal Q):Wp Tryz.prog 63 F0 w0 [(0,.row 1000000),(1,vi v1),(2,.fn 137 []),(6,vi v6),(7,vi v7),(9,vi v9),(54,vb v54)] [(1000000,120,[rc17 v0])] (cB (cB (cA (cB (cB (cI (cB (cI (cI (cB (cB (cB (cB (cF Tryz.f158)))))))))))))) Q:=by
 unfold slices_stableCmpFunc_api_Container__r0__view_sorted_1_j4 at h
 refine cn h (fun h=>?_) (fun h=>?_)
 ·obtain ⟨r4,hr4,h⟩:=bind_of h
  refine rb [] 5 ⟨[(1000000,1000000)],[(1000000,1000000)],[.row 1000000,vi v7,vi v9,vi v1,.fn 137 []],[(1000000,120,[rc17 v0])],.tup [],[(1000000,120,[rc17 r4])]⟩ [0,1,2,6] [1000000] [(0,.row 1000000),(1,vi v1),(2,.fn 137 []),(6,vi v6)] [(1000000,120,[rc17 r4])] ((ok_slices_symMergeCmpFunc_api_Container__r0__view_sorted_1 n v7 v9 v1 v0 _ hr4)) (kt [0,1,2,6] [1000000] [(0,.row 1000000),(1,vi v1),(2,.fn 137 []),(6,vi v6)] [(1000000,120,[rc17 r4])] ?_)
  cases h
  exact hQ
 ·refine Wp.skip (kt [0,1,2,6] [1000000] [(0,.row 1000000),(1,vi v1),(2,.fn 137 []),(6,vi v6)] [(1000000,120,[rc17 v0])] ?_)
  cases h
  exact hQ
def slices_stableCmpFunc_api_Container__r0__view_sorted_1_l2 (n:Nat) (v1:Int):Nat → (List (S_api_Container)) → Int → Option ((List (S_api_Container)))
 | 0,_,_=>none
 | k + 1,v0,v6=>if (decide (v6 < v1)) = true then ((slices_stableCmpFunc_api_Container__r0__view_sorted_1_l3 n v1 v6 n v0 0 (IntKind.wrap .i64 (2 * v6))).bind fun o3 =>
 (slices_stableCmpFunc_api_Container__r0__view_sorted_1_j4 n o3.1 v1 v6 o3.2 (IntKind.wrap .i64 (o3.2 + v6)) (decide ((IntKind.wrap .i64 (o3.2 + v6)) < v1))).bind fun o4 =>
 slices_stableCmpFunc_api_Container__r0__view_sorted_1_l2 n v1 k o4 (IntKind.wrap .i64 (v6 * 2)))
 else some v0
theorem ok_slices_stableCmpFunc_api_Container__r0__view_sorted_1_l2 (n:Nat) (v1:Int) {F0:Fz} {w0:Pt Tryz.prog} {Q:Exit → Act → World → Prop} (k:Nat):∀ (v0:List (S_api_Container)) (v6:Int) (o:(List (S_api_Container))),slices_stableCmpFunc_api_Container__r0__view_sorted_1_l2 n v1 k v0 v6 = some o → To 63 F0 w0 [] [(1000000,120,[rc17 o])] (.exit 2) Q → WL Tryz.prog 63 F0 w0 [(0,.row 1000000),(1,vi v1),(2,.fn 137 []),(6,vi v6)] [(1000000,120,[rc17 v0])] (cI (cI (cB (cB (cB (cB (cF Tryz.f158))))))) Q:=by
 induction k with
 | zero=>intro v0 v6 o h; cases h
 | succ k ih =>
  intro v0 v6 o h hQ
  rw [slices_stableCmpFunc_api_Container__r0__view_sorted_1_l2] at h
  refine WL.round (Wp.seq (Wp.seq (rg [0,1,2,6,30] [1000000] [(0,.row 1000000),(1,vi v1),(2,.fn 137 []),(6,vi v6),(30,vb (decide (v6 < v1)))] [(1000000,120,[rc17 v0])] (To.thenN (cn h (fun h=>?_) (fun h=>?_))))))
  ·refine Wp.skip (To.thenN (Wp.block (Wp.seq (rg [0,1,2,6,7,8] [1000000] [(0,.row 1000000),(1,vi v1),(2,.fn 137 []),(6,vi v6),(7,vi 0),(8,vi (IntKind.wrap .i64 (2 * v6)))] [(1000000,120,[rc17 v0])] (To.thenN (Wp.seq (Wp.block ?_)))))))
   obtain ⟨o3,ho3,h⟩:=bind_of h
   refine kw [0,1,2,6,7,8] [1000000] [(0,.row 1000000),(1,vi v1),(2,.fn 137 []),(6,vi v6),(7,vi 0),(8,vi (IntKind.wrap .i64 (2 * v6)))] [(1000000,120,[rc17 v0])] (Wp.loopL (ok_slices_stableCmpFunc_api_Container__r0__view_sorted_1_l3 n v1 v6 n v0 0 (IntKind.wrap .i64 (2 * v6)) o3 ho3 (To.blockX (To.thenN (Wp.seq (Wp.seq (rg [0,1,2,6,7,9] [1000000] [(0,.row 1000000),(1,vi v1),(2,.fn 137 []),(6,vi v6),(7,vi o3.2),(9,vi (IntKind.wrap .i64 (o3.2 + v6)))] [(1000000,120,[rc17 o3.1])] (To.thenN (Wp.seq (rg [0,1,2,6,7,9,54] [1000000] [(0,.row 1000000),(1,vi v1),(2,.fn 137 []),(6,vi v6),(7,vi o3.2),(9,vi (IntKind.wrap .i64 (o3.2 + v6))),(54,vb (decide ((IntKind.wrap .i64 (o3.2 + v6)) < v1)))] [(1000000,120,[rc17 o3.1])] ?_))))))))))
   refine To.thenN ?_
   obtain ⟨o4,ho4,h⟩:=bind_of h
   refine kw [0,1,2,6,7,9,54] [1000000] [(0,.row 1000000),(1,vi v1),(2,.fn 137 []),(6,vi v6),(7,vi o3.2),(9,vi (IntKind.wrap .i64 (o3.2 + v6))),(54,vb (decide ((IntKind.wrap .i64 (o3.2 + v6)) < v1)))] [(1000000,120,[rc17 o3.1])] (ok_slices_stableCmpFunc_api_Container__r0__view_sorted_1_j4 n o3.1 v1 v6 o3.2 (IntKind.wrap .i64 (o3.2 + v6)) (decide ((IntKind.wrap .i64 (o3.2 + v6)) < v1)) o4 ho4 (To.thenN (rg [0,1,2,6] [1000000] [(0,.row 1000000),(1,vi v1),(2,.fn 137 []),(6,vi (IntKind.wrap .i64 (v6 * 2)))] [(1000000,120,[rc17 o4])] (To.blockN (To.again ?_)))))
   exact ih o4 (IntKind.wrap .i64 (v6 * 2)) _ h hQ
  ·refine Wp.exit (To.thenX (To.thenX (kt [] [1000000] [] [(1000000,120,[rc17 v0])] ?_)))
   cases h
   exact hQ
def slices_stableCmpFunc_api_Container__r0__view_sorted_1 (n:Nat) (a1:Int) (h0:List (S_api_Container)):Option ((List (S_api_Container))) :=
 (slices_stableCmpFunc_api_Container__r0__view_sorted_1_l1 n a1 20 n h0 0 20).bind fun o1 =>
 (slices_insertionSortCmpFunc_api_Container__r0__view_sorted_1 n o1.2 a1 o1.1).bind fun r2 =>
 (slices_stableCmpFunc_api_Container__r0__view_sorted_1_l2 n a1 n r2 20).bind fun o3 =>
 some o3
theorem ok_slices_stableCmpFunc_api_Container__r0__view_sorted_1 (n:Nat) (a1:Int) (h0:List (S_api_Container)) (r:(List (S_api_Container))) (h:slices_stableCmpFunc_api_Container__r0__view_sorted_1 n a1 h0 = some r):CallsB Tryz.prog 158 [.row 1000000,vi a1,.fn 137 []] [(1000000,120,[rc17 h0])] (.tup []) [(1000000,120,[rc17 r])]:=by
 unfold slices_stableCmpFunc_api_Container__r0__view_sorted_1 at h
 refine bo Tryz.f158 rfl fun F0 w0=>?_
 refine Wp.seq (rg [0,1,2,6] [1000000] [(0,.row 1000000),(1,vi a1),(2,.fn 137 []),(6,vi 20)] [(1000000,120,[rc17 h0])] (To.thenN (Wp.seq (rg [0,1,2,6,7,8] [1000000] [(0,.row 1000000),(1,vi a1),(2,.fn 137 []),(6,vi 20),(7,vi 0),(8,vi 20)] [(1000000,120,[rc17 h0])] (To.thenN (Wp.seq (Wp.block ?_)))))))
 obtain ⟨o1,ho1,h⟩:=bind_of h
 refine kw [0,1,2,6,7,8] [1000000] [(0,.row 1000000),(1,vi a1),(2,.fn 137 []),(6,vi 20),(7,vi 0),(8,vi 20)] [(1000000,120,[rc17 h0])] (Wp.loopL (ok_slices_stableCmpFunc_api_Container__r0__view_sorted_1_l1 n a1 20 n h0 0 20 o1 ho1 (To.blockX (To.thenN (Wp.seq ?_)))))
 obtain ⟨r2,hr2,h⟩:=bind_of h
 refine rb [] 4 ⟨[(1000000,1000000)],[(1000000,1000000)],[.row 1000000,vi o1.2,vi a1,.fn 137 []],[(1000000,120,[rc17 o1.1])],.tup [],[(1000000,120,[rc17 r2])]⟩ [0,1,2,6] [1000000] [(0,.row 1000000),(1,vi a1),(2,.fn 137 []),(6,vi 20)] [(1000000,120,[rc17 r2])] ((ok_slices_insertionSortCmpFunc_api_Container__r0__view_sorted_1 n o1.2 a1 o1.1 _ hr2)) (To.thenN (Wp.block ?_))
 obtain ⟨o3,ho3,h⟩:=bind_of h
 refine kw [0,1,2,6] [1000000] [(0,.row 1000000),(1,vi a1),(2,.fn 137 []),(6,vi 20)] [(1000000,120,[rc17 r2])] (Wp.loopL (ok_slices_stableCmpFunc_api_Container__r0__view_sorted_1_l2 n a1 n r2 20 o3 ho3 (To.blockX (To.fin ?_))))
 cases h
 exact To.doneB hΓ [1000000] (by kernel_rfl) (by kernel_rfl)
def slices_SortStableFunc_api_Container_api_Container__r0__view_sorted_1 (n:Nat) (h0:List (S_api_Container)):Option ((List (S_api_Container))) :=
 (slices_stableCmpFunc_api_Container__r0__view_sorted_1 n (List.length h0:Int) h0).bind fun r1 =>
 some r1
theorem ok_slices_SortStableFunc_api_Container_api_Container__r0__view_sorted_1 (n:Nat) (h0:List (S_api_Container)) (r:(List (S_api_Container))) (h:slices_SortStableFunc_api_Container_api_Container__r0__view_sorted_1 n h0 = some r):CallsB Tryz.prog 136 [.row 1000000,.fn 137 []] [(1000000,120,[rc17 h0])] (.tup []) [(1000000,120,[rc17 r])]:=by
 unfold slices_SortStableFunc_api_Container_api_Container__r0__view_sorted_1 at h
 refine bo Tryz.f136 rfl fun F0 w0=>?_
 obtain ⟨r1,hr1,h⟩:=bind_of h
 refine rb [] 4 ⟨[(1000000,1000000)],[(1000000,1000000)],[.row 1000000,vi (List.length h0:Int),.fn 137 []],[(1000000,120,[rc17 h0])],.tup [],[(1000000,120,[rc17 r1])]⟩ [] [1000000] [] [(1000000,120,[rc17 r1])] ((ok_slices_stableCmpFunc_api_Container__r0__view_sorted_1 n (List.length h0:Int) h0 _ hr1)) (To.fin ?_)
 cases h
 exact To.doneB hΓ [1000000] (by kernel_rfl) (by kernel_rfl)
def view_sorted_o__r0 (n:Nat) (h0:List (S_api_Container)):Option ((List (S_api_Container))) :=
 (slices_SortStableFunc_api_Container_api_Container__r0__view_sorted_1 n h0).bind fun r1 =>
 some r1
theorem ok_view_sorted_o__r0 (n:Nat) (h0:List (S_api_Container)) (r:(List (S_api_Container))) (h:view_sorted_o__r0 n h0 = some r):CallsB Tryz.prog 117 [.row 1000000] [(1000000,120,[rc17 h0])] (.row 1000000) [(1000000,120,[rc17 r])]:=by
 unfold view_sorted_o__r0 at h
 refine bo Tryz.f117 rfl fun F0 w0=>?_
 refine Wp.seq (rg [0] [1000000] [(0,.row 1000000)] [(1000000,120,[rc17 h0])] (To.thenN (Wp.seq ?_)))
 obtain ⟨r1,hr1,h⟩:=bind_of h
 refine rb [] 1 ⟨[(1000000,1000000)],[(1000000,1000000)],[.row 1000000,.fn 137 []],[(1000000,120,[rc17 h0])],.tup [],[(1000000,120,[rc17 r1])]⟩ [0] [1000000] [(0,.row 1000000)] [(1000000,120,[rc17 r1])] ((ok_slices_SortStableFunc_api_Container_api_Container__r0__view_sorted_1 n h0 _ hr1)) (To.thenN (Wp.seq (rg [2] [1000000] [(2,.row 1000000)] [(1000000,120,[rc17 r1])] (To.thenN (Wp.ret ?_)))))
 cases h
 exact To.doneB hΓ [1000000] (by kernel_rfl) (by kernel_rfl)
def view_Mine (n:Nat) (a0:S_view_Seen) (a1:List UInt8):Option ((List (S_api_Container))) :=
 (view_those_api_Container_o__view_Mine_1_e n a0.f_Boxes a1).bind fun r1 =>
 (view_sorted_o__r0 n r1).bind fun r2 =>
 some r2
abbrev qc33 (x:S_view_Seen):List D:=[rs19 x.f_Boxes,rs22 x.f_Nets,rs22 x.f_Vols]
theorem ok_view_Mine (n:Nat) (a0:S_view_Seen) (a1:List UInt8) (r:(List (S_api_Container))) (h:view_Mine n a0 a1 = some r):CallsX Tryz.prog 83 [.agg (qc33 a0),.str a1] (rs19 r):=by
 unfold view_Mine at h
 refine xo Tryz.f83 rfl fun F0 w0 _=>?_
 refine Wp.seq (rg [2,3] [2,3] [(2,.own 2 0),(3,.own 3 0)] [(2,102,qc33 a0),(3,9,[.str a1])] (To.thenN (Wp.seq ?_)))
 obtain ⟨r1,hr1,h⟩:=bind_of h
 obtain ⟨r2,hr2,h⟩:=bind_of h
 refine rr [(2,[3])] [] [(3,⟨[],[(1,8)],[rs19 a0.f_Boxes,.fn 118 [.el [.str a1]]],[],.row 1,[(1,120,[rc17 r1])]⟩),(4,⟨[(1000000,8)],[(1000000,8)],[.row 1000000],[(1000000,120,[rc17 r1])],.row 1000000,[(1000000,120,[rc17 r2])]⟩)] [4] [8] [(4,.row 8)] [(8,120,[rc17 r2])] [CbOb (CallsB Tryz.prog) 113 [rs19 a0.f_Boxes,.fn 118 [.el [.str a1]]] [] ⟨[],[(1,8)],[rs19 a0.f_Boxes,.fn 118 [.el [.str a1]]],[],.row 1,[(1,120,[rc17 r1])]⟩,CbOb (CallsB Tryz.prog) 117 [.row 8] [some (120,[rc17 r1])] ⟨[(1000000,8)],[(1000000,8)],[.row 1000000],[(1000000,120,[rc17 r1])],.row 1000000,[(1000000,120,[rc17 r2])]⟩] (AllP.cons (⟨(ok_view_those_api_Container_o__view_Mine_1_e n a0.f_Boxes a1 _ hr1),by kernel_rfl,by kernel_rfl⟩) (AllP.cons (⟨(ok_view_sorted_o__r0 n r1 _ hr2),by kernel_rfl,by kernel_rfl⟩) AllP.nil)) ?_
 refine To.thenN (Wp.ret (To.pre (St.settle (ks:=[8]) (kk:=[4]) (kl:=[8]) (K':=[(4,.row 8)]) (L':=[(8,120,[rc20 r2])]) (by kernel_rfl)) (To.pre (St.sealK [4] (K':=[(4,rs19 r2)]) (by kernel_rfl)) ?_)))
 cases h
 exact To.done hΓ (by kernel_rfl)
def view_Service_1__e (a0:S_api_Container) (c0:List UInt8):Bool :=
 (a0.f_Spec.f_Service == c0)
theorem ok_view_Service_1__e (a0:S_api_Container) (c0:List UInt8) (r:Bool) (h:view_Service_1__e a0 c0 = r):CallsX Tryz.prog 114 [.agg (qc16 a0),.el [.str c0]] (vb r):=by
 unfold view_Service_1__e at h
 refine xo Tryz.f114 rfl fun F0 w0 _=>?_
 refine Wp.seq (rg [1,2] [2] [(1,.el [.str c0]),(2,.own 2 0)] [(ex12 a0)] (To.thenN (Wp.seq (rg [3] [] [(3,vb (a0.f_Spec.f_Service == c0))] [] (To.thenN (Wp.ret ?_))))))
 cases h
 exact To.done hΓ (by kernel_rfl)
def view_those_api_Container__view_Service_1_e_j2 (n:Nat) (v1_0:List UInt8) (v5:List (S_api_Container)) (v8:List (S_api_Container)) (v9:Int) (v10:Int):Option ((List (S_api_Container))) :=
 if (decide (0 ≤ v10 ∧ v10 < (List.length v8:Int))) = true then (lett (view_Service_1__e ((v8)[Int.toNat v10]?.getD Z_api_Container) v1_0) fun r1 =>
 if r1 = true then (if (decide ((List.length v5 + List.length ([((v8)[Int.toNat v10]?.getD Z_api_Container)]:List (S_api_Container))) * (216 + 1) ≤ limit)) = true then (some (v5 ++ ([((v8)[Int.toNat v10]?.getD Z_api_Container)]:List (S_api_Container)))) else none)
 else some v5) else none
theorem ok_view_those_api_Container__view_Service_1_e_j2 (n:Nat) (v1_0:List UInt8) (v5:List (S_api_Container)) (v8:List (S_api_Container)) (v9:Int) (v10:Int) (o:(List (S_api_Container))) (h:view_those_api_Container__view_Service_1_e_j2 n v1_0 v5 v8 v9 v10 = some o) {F0:Fz} {w0:Pt Tryz.prog} {Q:Exit → Act → World → Prop} (hQ:To 23 F0 w0 [(1,.fn 114 [.el [.str v1_0]]),(5,.row 1005),(8,rs19 v8),(9,vi v9),(10,vi v10)] [(1005,120,[rc17 o])] .normal Q):Wp Tryz.prog 23 F0 w0 [(1,.fn 114 [.el [.str v1_0]]),(5,.row 1005),(8,rs19 v8),(9,vi v9),(10,vi v10)] [(1005,120,[rc17 v5])] (cA (cB (cB (cI (cI (cB (cA (cB (cB (cF Tryz.f113)))))))))) Q:=by
 unfold view_those_api_Container__view_Service_1_e_j2 at h
 refine Wp.block (Wp.seq ?_)
 obtain ⟨hc3,h⟩:=chk_of h
 refine r0 [1,5,7,8,9,10] [7,1005] [(1,.fn 114 [.el [.str v1_0]]),(5,.row 1005),(7,.own 7 0),(8,rs19 v8),(9,vi v9),(10,vi v10)] [(ex46 v8 v10),(1005,120,[rc17 v5])] (AllP.cons hc3 AllP.nil) (To.thenN (Wp.seq ?_))
 obtain ⟨r1,hr1,h⟩:=lett_of h
 refine rc [] 2 [1,5,7,8,9,10,16] [7,1005] [(1,.fn 114 [.el [.str v1_0]]),(5,.row 1005),(7,.own 7 0),(8,rs19 v8),(9,vi v9),(10,vi v10),(16,vb r1)] [(ex46 v8 v10),(1005,120,[rc17 v5])] (ok_view_Service_1__e (ex15 v8 v10) v1_0 _ hr1) (To.thenN (cn h (fun h=>?_) (fun h=>?_)))
 ·obtain ⟨hc2,h⟩:=chk_of h
  refine rr [] [(2,rs19 ([(ex15 v8 v10)])),(3,rs19 (v5 ++ (ex49 v8 v10)))] [] [1,5,8,9,10] [20] [(1,.fn 114 [.el [.str v1_0]]),(5,.row 20),(8,rs19 v8),(9,vi v9),(10,vi v10)] [(20,120,[rc17 (v5 ++ (ex49 v8 v10))])] [(MkOb 18 [vi ((ex15 v8 v10).f_Id),.str ((ex15 v8 v10).f_Spec.f_Name),.str (ex42 v8 v10),.str (ex43 v8 v10),vi (ex45 v8 v10),.str ((ex15 v8 v10).f_Spec.f_Hash),ls ((ex15 v8 v10).f_Spec.f_Nets),ls ((ex15 v8 v10).f_Spec.f_Vols),.str (ex41 v8 v10),vi (ex39 v8 v10),vi (ex40 v8 v10),vi (ex38 v8 v10),vi (ex44 v8 v10),vi ((ex15 v8 v10).f_Spec.f_Tries),vi ((ex15 v8 v10).f_State),vi ((ex15 v8 v10).f_Code),vi ((ex15 v8 v10).f_Health),vi ((ex15 v8 v10).f_Runs)] 1 (rs19 ([(ex15 v8 v10)])) ∧ GoodR (rs19 ([(ex15 v8 v10)]))),_,(ex53 v5 v8 v10)] (AllP.cons (mkOb (by kernel_rfl) rfl (by kernel_rfl) (good_E_api_Container _)) (AllP.cons hc2 (AllP.cons (appOb rfl rfl (good_E_api_Container _)) AllP.nil))) (To.blockN (nt [1,5,8,9,10] [20] [(20,1005)] [1,5,8,9,10] [1005] [(1,.fn 114 [.el [.str v1_0]]),(5,.row 1005),(8,rs19 v8),(9,vi v9),(10,vi v10)] [(1005,120,[rc17 (v5 ++ (ex49 v8 v10))])] ?_))
  cases h
  exact hQ
 ·refine Wp.skip (To.blockN (kt [1,5,8,9,10] [1005] [(1,.fn 114 [.el [.str v1_0]]),(5,.row 1005),(8,rs19 v8),(9,vi v9),(10,vi v10)] [(1005,120,[rc17 v5])] ?_))
  cases h
  exact hQ
def view_those_api_Container__view_Service_1_e_l1 (n:Nat) (v1_0:List UInt8) (v8:List (S_api_Container)) (v9:Int):Nat → (List (S_api_Container)) → Int → Option ((List (S_api_Container)))
 | 0,_,_=>none
 | k + 1,v5,v10=>if (decide (v10 < v9)) = true then ((view_those_api_Container__view_Service_1_e_j2 n v1_0 v5 v8 v9 v10).bind fun o1 =>
 view_those_api_Container__view_Service_1_e_l1 n v1_0 v8 v9 k o1 (IntKind.wrap .i64 (v10 + 1)))
 else some v5
theorem ok_view_those_api_Container__view_Service_1_e_l1 (n:Nat) (v1_0:List UInt8) (v8:List (S_api_Container)) (v9:Int) {F0:Fz} {w0:Pt Tryz.prog} {Q:Exit → Act → World → Prop} (k:Nat):∀ (v5:List (S_api_Container)) (v10:Int) (o:(List (S_api_Container))),view_those_api_Container__view_Service_1_e_l1 n v1_0 v8 v9 k v5 v10 = some o → To 23 F0 w0 [(5,.row 1005)] [(1005,120,[rc17 o])] (.exit 0) Q → WL Tryz.prog 23 F0 w0 [(1,.fn 114 [.el [.str v1_0]]),(5,.row 1005),(8,rs19 v8),(9,vi v9),(10,vi v10)] [(1005,120,[rc17 v5])] (cI (cI (cB (cA (cB (cB (cF Tryz.f113))))))) Q:=by
 induction k with
 | zero=>intro v5 v10 o h; cases h
 | succ k ih =>
  intro v5 v10 o h hQ
  rw [view_those_api_Container__view_Service_1_e_l1] at h
  refine WL.round (Wp.seq (rg [1,5,8,9,10,11] [1005] [(1,.fn 114 [.el [.str v1_0]]),(5,.row 1005),(8,rs19 v8),(9,vi v9),(10,vi v10),(11,vb (decide (v10 < v9)))] [(1005,120,[rc17 v5])] (To.thenN (Wp.seq (cn h (fun h=>?_) (fun h=>?_))))))
  ·refine Wp.skip (To.thenN (Wp.seq ?_))
   obtain ⟨o1,ho1,h⟩:=bind_of h
   refine kw [1,5,8,9,10] [1005] [(1,.fn 114 [.el [.str v1_0]]),(5,.row 1005),(8,rs19 v8),(9,vi v9),(10,vi v10)] [(1005,120,[rc17 v5])] (ok_view_those_api_Container__view_Service_1_e_j2 n v1_0 v5 v8 v9 v10 o1 ho1 (To.thenN (rg [1,5,8,9,10] [1005] [(1,.fn 114 [.el [.str v1_0]]),(5,.row 1005),(8,rs19 v8),(9,vi v9),(ex18 v10)] [(1005,120,[rc17 o1])] (kt [1,5,8,9,10] [1005] [(1,.fn 114 [.el [.str v1_0]]),(5,.row 1005),(8,rs19 v8),(9,vi v9),(ex18 v10)] [(1005,120,[rc17 o1])] (To.again ?_)))))
   exact ih o1 (IntKind.wrap .i64 (v10 + 1)) _ h hQ
  ·refine Wp.exit (To.thenX (To.thenX (kt [5] [1005] [(5,.row 1005)] [(1005,120,[rc17 v5])] ?_)))
   cases h
   exact hQ
def view_those_api_Container__view_Service_1_e (n:Nat) (a0:List (S_api_Container)) (c0:List UInt8):Option ((List (S_api_Container))) :=
 (view_those_api_Container__view_Service_1_e_l1 n c0 a0 (List.length a0:Int) n ([]:List (S_api_Container)) 0).bind fun o1 =>
 some o1
theorem ok_view_those_api_Container__view_Service_1_e (n:Nat) (a0:List (S_api_Container)) (c0:List UInt8) (r:(List (S_api_Container))) (h:view_those_api_Container__view_Service_1_e n a0 c0 = some r):CallsX Tryz.prog 113 [rs19 a0,.fn 114 [.el [.str c0]]] (rs19 r):=by
 unfold view_those_api_Container__view_Service_1_e at h
 refine xo Tryz.f113 rfl fun F0 w0 _=>?_
 refine Wp.seq (rg [0,1] [] [(0,rs19 a0),(1,.fn 114 [.el [.str c0]])] [] (To.thenN (Wp.seq (rg [0,1,5] [] [(0,rs19 a0),(1,.fn 114 [.el [.str c0]]),(5,.val (.slice none 0 0))] [] (To.thenN (Wp.seq (Wp.seq (rg [1,5,8,9,10] [] [(1,.fn 114 [.el [.str c0]]),(5,.val (.slice none 0 0)),(8,rs19 a0),(ex26 a0),(10,vi 0)] [] (To.thenN (Wp.block ?_))))))))))
 obtain ⟨o1,ho1,h⟩:=bind_of h
 refine kw [1,5,8,9,10] [] [(1,.fn 114 [.el [.str c0]]),(5,.val (.slice none 0 0)),(8,rs19 a0),(ex26 a0),(10,vi 0)] [] (Wp.pre (St.vacant (t:=5) (k:=1005) (e:=120) (K':=[(1,.fn 114 [.el [.str c0]]),(5,.row 1005),(8,rs19 a0),(ex26 a0),(10,vi 0)]) (good_E_api_Container _) (by decide) (by kernel_rfl) (by kernel_rfl)) (kw [1,5,8,9,10] [1005] [(1,.fn 114 [.el [.str c0]]),(5,.row 1005),(8,rs19 a0),(ex26 a0),(10,vi 0)] [(1005,120,[rc17 []])] (Wp.loopL (ok_view_those_api_Container__view_Service_1_e_l1 n c0 a0 (List.length a0:Int) n ([]:List (S_api_Container)) 0 o1 ho1 (To.blockX (To.thenN (Wp.seq (rg [4] [1005] [(4,.row 1005)] [(1005,120,[rc17 o1])] (To.thenN (Wp.ret ?_))))))))))
 refine To.pre (St.settle (ks:=[1005]) (kk:=[4]) (kl:=[1005]) (K':=[(4,.row 1005)]) (L':=[(1005,120,[rc20 o1])]) (by kernel_rfl)) (To.pre (St.sealK [4] (K':=[(4,rs19 o1)]) (by kernel_rfl)) ?_)
 cases h
 exact To.done hΓ (by kernel_rfl)
def view_Service (n:Nat) (a0:S_view_Seen) (a1:List UInt8) (a2:List UInt8):Option ((List (S_api_Container))) :=
 (view_Mine n a0 a1).bind fun r1 =>
 (view_those_api_Container__view_Service_1_e n r1 a2).bind fun r2 =>
 some r2
theorem ok_view_Service (n:Nat) (a0:S_view_Seen) (a1:List UInt8) (a2:List UInt8) (r:(List (S_api_Container))) (h:view_Service n a0 a1 a2 = some r):CallsX Tryz.prog 81 [.agg (qc33 a0),.str a1,.str a2] (rs19 r):=by
 unfold view_Service at h
 refine xo Tryz.f81 rfl fun F0 w0 _=>?_
 refine Wp.seq (rg [1,3,5] [3,5] [(1,.str a1),(3,.own 3 0),(5,.own 5 0)] [(3,102,qc33 a0),(5,9,[.str a2])] (To.thenN (Wp.seq ?_)))
 obtain ⟨r1,hr1,h⟩:=bind_of h
 obtain ⟨r2,hr2,h⟩:=bind_of h
 refine rr [(3,[5])] [(2,rs19 r1),(4,rs19 r2)] [] [6] [] [(6,rs19 r2)] [] [_,_] (AllP.cons (c1 (ok_view_Mine n a0 a1 _ hr1)) (AllP.cons (c1 (ok_view_those_api_Container__view_Service_1_e n r1 a2 _ hr2)) AllP.nil)) (To.thenN (Wp.ret ?_))
 cases h
 exact To.done hΓ (by kernel_rfl)
structure S_api_Project where
 f_Name:List UInt8
 f_Services:List (S_api_Service)
 f_Nets:List (List UInt8)
 f_Vols:List (List UInt8)
def load_Service_l1 (n:Nat) (v1:List UInt8) (v9:List (S_api_Service)) (v10:Int):Nat → Int → S_api_Service → Option (Sum (S_api_Service) (Bool × S_api_Service))
 | 0,_,_=>none
 | k + 1,v11,b4=>if (decide (v11 < v10)) = true then (if (decide (0 ≤ v11 ∧ v11 < (List.length v9:Int))) = true then (if ((((v9)[Int.toNat v11]?.getD Z_api_Service).f_Name) == v1) = true then (some (.inr (true,((v9)[Int.toNat v11]?.getD Z_api_Service))))
 else (load_Service_l1 n v1 v9 v10 k (IntKind.wrap .i64 (v11 + 1)) b4)) else none)
 else (some (.inl b4))
abbrev zx34:S_api_Var:=S_api_Var.mk [] []
abbrev zx35:S_api_Port:=S_api_Port.mk [] 0 0 []
abbrev zx36:S_api_Mount:=S_api_Mount.mk [] [] false
abbrev zx37:S_api_Dep:=S_api_Dep.mk [] 0 false false
abbrev rs38 (l:List (S_api_Var)):D:=.recs (α:=S_api_Var) zx34 E_api_Var l
abbrev rs39 (l:List (S_api_Port)):D:=.recs (α:=S_api_Port) zx35 E_api_Port l
abbrev rs40 (l:List (S_api_Mount)):D:=.recs (α:=S_api_Mount) zx36 E_api_Mount l
abbrev rs41 (l:List (S_api_Dep)):D:=.recs (α:=S_api_Dep) zx37 E_api_Dep l
abbrev rs42 (l:List (S_api_Service)):D:=.recs (α:=S_api_Service) Z_api_Service E_api_Service l
abbrev qc43 (x:S_api_Service):List D:=[.str x.f_Name,.str x.f_Image,ls x.f_Command,rs38 x.f_Env,rs38 x.f_Labels,rs39 x.f_Ports,rs40 x.f_Mounts,ls x.f_Nets,rs41 x.f_Deps,vi x.f_Replicas,.str x.f_Health.f_Test,vi x.f_Health.f_Every,vi x.f_Health.f_Start,vi x.f_Health.f_Retries,vi x.f_Restart,vi x.f_Tries,vi x.f_Cpus,vi x.f_Mem]
theorem ok_load_Service_l1 (n:Nat) (v1:List UInt8) (v9:List (S_api_Service)) (v10:Int) {F0:Fz} {w0:Pt Tryz.prog} {Q:Exit → Act → World → Prop} (k:Nat):∀ (v11:Int) (b4:S_api_Service) (o:Sum (S_api_Service) (Bool × S_api_Service)),load_Service_l1 n v1 v9 v10 k v11 b4 = some o → (Sum.elim (fun s=>To 22 F0 w0 [(4,.own 4 0)] [(4,161,qc43 s)] (.exit 0) Q) (fun s=>To 22 F0 w0 [(4,.own 4 0),(5,vb s.1)] [(4,161,qc43 s.2)] .ret Q)) o → WL Tryz.prog 22 F0 w0 [(1,.str v1),(4,.own 4 0),(9,rs42 v9),(10,vi v10),(11,vi v11)] [(4,161,(E_api_Service b4))] (cI (cI (cB (cA (cB (cF Tryz.f116)))))) Q:=by
 induction k with
 | zero=>intro v11 b4 o h; cases h
 | succ k ih =>
  intro v11 b4 o h hQ
  rw [load_Service_l1] at h
  refine WL.round (Wp.seq (rg [1,4,9,10,11,12] [4] [(1,.str v1),(4,.own 4 0),(9,rs42 v9),(10,vi v10),(11,vi v11),(12,vb (decide (v11 < v10)))] [(4,161,(E_api_Service b4))] (To.thenN (Wp.seq (cn h (fun h=>?_) (fun h=>?_))))))
  ·refine Wp.skip (To.thenN (Wp.seq (Wp.block (Wp.seq ?_))))
   obtain ⟨hc1,h⟩:=chk_of h
   refine r0 [1,4,7,9,10,11] [4,7] [(1,.str v1),(4,.own 4 0),(7,.own 7 0),(9,rs42 v9),(10,vi v10),(11,vi v11)] [(4,161,(E_api_Service b4)),(7,161,(E_api_Service ((v9)[Int.toNat v11]?.getD Z_api_Service)))] (AllP.cons hc1 AllP.nil) (To.thenN (Wp.seq (rg [1,4,7,9,10,11,18] [4,7] [(1,.str v1),(4,.own 4 0),(7,.own 7 0),(9,rs42 v9),(10,vi v10),(11,vi v11),(18,vb ((((v9)[Int.toNat v11]?.getD Z_api_Service).f_Name) == v1))] [(4,161,(E_api_Service b4)),(7,161,(E_api_Service ((v9)[Int.toNat v11]?.getD Z_api_Service)))] (To.thenN (cn h (fun h=>?_) (fun h=>?_))))))
   ·refine Wp.seq (rg [4,5] [4] [(4,.own 4 0),(5,vb true)] [(4,161,(E_api_Service ((v9)[Int.toNat v11]?.getD Z_api_Service)))] (To.thenN (Wp.ret (To.blockR (To.thenR (To.thenR ?_))))))
    cases h
    exact hQ
   ·refine Wp.skip (To.blockN (To.thenN (rg [1,4,9,10,11] [4] [(1,.str v1),(4,.own 4 0),(9,rs42 v9),(10,vi v10),(11,vi (IntKind.wrap .i64 (v11 + 1)))] [(4,161,(E_api_Service b4))] (kt [1,4,9,10,11] [4] [(1,.str v1),(4,.own 4 0),(9,rs42 v9),(10,vi v10),(11,vi (IntKind.wrap .i64 (v11 + 1)))] [(4,161,(E_api_Service b4))] (To.again ?_)))))
    exact ih (IntKind.wrap .i64 (v11 + 1)) b4 _ h hQ
  ·refine Wp.exit (To.thenX (To.thenX (kt [4] [4] [(4,.own 4 0)] [(4,161,(E_api_Service b4))] ?_)))
   cases h
   exact hQ
def load_Service (n:Nat) (a0:S_api_Project) (a1:List UInt8):Option (S_api_Service × Bool) :=
 (load_Service_l1 n a1 a0.f_Services (List.length a0.f_Services:Int) n 0 (S_api_Service.mk [] [] [] [] [] [] [] [] [] 0 (S_api_Check.mk [] 0 0 0) 0 0 0 0)).bind fun o1 =>
 (Sum.elim (fun o1=>some ((S_api_Service.mk [] [] [] [] [] [] [] [] [] 0 (S_api_Check.mk [] 0 0 0) 0 0 0 0),false)) (fun o1=>some (o1.2,o1.1))) o1
abbrev qc44 (x:S_api_Project):List D:=[.str x.f_Name,rs42 x.f_Services,ls x.f_Nets,ls x.f_Vols]
theorem ok_load_Service (n:Nat) (a0:S_api_Project) (a1:List UInt8) (r:S_api_Service × Bool) (h:load_Service n a0 a1 = some r):CallsX Tryz.prog 116 [.agg (qc44 a0),.str a1] (.tup [.agg (qc43 r.1),vb r.2]):=by
 unfold load_Service at h
 refine xo Tryz.f116 rfl fun F0 w0 _=>?_
 refine Wp.seq (rg [1,2,4] [2,4] [(1,.str a1),(2,.own 2 0),(4,.own 4 0)] [(2,164,qc44 a0),(4,161,[.str [],.str [],.val (.slice none 0 0),.val (.slice none 0 0),.val (.slice none 0 0),.val (.slice none 0 0),.val (.slice none 0 0),.val (.slice none 0 0),.val (.slice none 0 0),vi 0,.str [],vi 0,vi 0,vi 0,vi 0,vi 0,vi 0,vi 0])] (To.thenN (Wp.seq (Wp.seq (rg [1,4,9,10,11] [4] [(1,.str a1),(4,.own 4 0),(9,rs42 a0.f_Services),(10,vi (List.length a0.f_Services:Int)),(11,vi 0)] [(4,161,[.str [],.str [],.val (.slice none 0 0),.val (.slice none 0 0),.val (.slice none 0 0),.val (.slice none 0 0),.val (.slice none 0 0),.val (.slice none 0 0),.val (.slice none 0 0),vi 0,.str [],vi 0,vi 0,vi 0,vi 0,vi 0,vi 0,vi 0])] (To.thenN (Wp.block ?_)))))))
 obtain ⟨o1,ho1,h⟩:=bind_of h
 refine kw [1,4,9,10,11] [4] [(1,.str a1),(4,.own 4 0),(9,rs42 a0.f_Services),(10,vi (List.length a0.f_Services:Int)),(11,vi 0)] [(4,161,[.str [],.str [],.val (.slice none 0 0),.val (.slice none 0 0),.val (.slice none 0 0),.val (.slice none 0 0),.val (.slice none 0 0),.val (.slice none 0 0),.val (.slice none 0 0),vi 0,.str [],vi 0,vi 0,vi 0,vi 0,vi 0,vi 0,vi 0])] (Wp.weak (K':=[(1,.str a1),(4,.own 4 0),(9,rs42 a0.f_Services),(10,vi (List.length a0.f_Services:Int)),(11,vi 0)]) (L':=[(4,161,[.str [],.str [],ls [],rs38 [],rs38 [],rs39 [],rs40 [],ls [],rs41 [],vi 0,.str [],vi 0,vi 0,vi 0,vi 0,vi 0,vi 0,vi 0])]) (.cons (.refl _) (.cons (.refl _) (.cons (.refl _) (.cons (.refl _) (.cons (.refl _) .nil))))) (.cons (.cons (.refl _) (.cons (.refl _) (.cons (.zero _ _) (.cons (.zero _ _) (.cons (.zero _ _) (.cons (.zero _ _) (.cons (.zero _ _) (.cons (.zero _ _) (.cons (.zero _ _) (.cons (.refl _) (.cons (.refl _) (.cons (.refl _) (.cons (.refl _) (.cons (.refl _) (.cons (.refl _) (.cons (.refl _) (.cons (.refl _) (.cons (.refl _) .nil)))))))))))))))))) .nil) (Wp.loopL (ok_load_Service_l1 n a1 a0.f_Services (List.length a0.f_Services:Int) n 0 (S_api_Service.mk [] [] [] [] [] [] [] [] [] 0 zx13 0 0 0 0) o1 ho1 ?_)))
 rcases o1 with o1 | o1
 ·replace h:=sum_l h
  refine To.blockX (To.thenN (Wp.seq (rg [4,5] [4] [(4,.own 4 0),(5,vb false)] [(4,161,[.str [],.str [],.val (.slice none 0 0),.val (.slice none 0 0),.val (.slice none 0 0),.val (.slice none 0 0),.val (.slice none 0 0),.val (.slice none 0 0),.val (.slice none 0 0),vi 0,.str [],vi 0,vi 0,vi 0,vi 0,vi 0,vi 0,vi 0])] (To.thenN (Wp.ret (To.weak (K':=[(4,.own 4 0),(5,vb false)]) (L':=[(4,161,[.str [],.str [],ls [],rs38 [],rs38 [],rs39 [],rs40 [],ls [],rs41 [],vi 0,.str [],vi 0,vi 0,vi 0,vi 0,vi 0,vi 0,vi 0])]) (.cons (.refl _) (.cons (.refl _) .nil)) (.cons (.cons (.refl _) (.cons (.refl _) (.cons (.zero _ _) (.cons (.zero _ _) (.cons (.zero _ _) (.cons (.zero _ _) (.cons (.zero _ _) (.cons (.zero _ _) (.cons (.zero _ _) (.cons (.refl _) (.cons (.refl _) (.cons (.refl _) (.cons (.refl _) (.cons (.refl _) (.cons (.refl _) (.cons (.refl _) (.cons (.refl _) (.cons (.refl _) .nil)))))))))))))))))) .nil) ?_))))))
  cases h
  exact To.done hΓ (by kernel_rfl)
 ·replace h:=sum_r h
  refine To.blockR (To.thenR ?_)
  cases h
  exact To.done hΓ (by kernel_rfl)
def view_Orphans_1__e (n:Nat) (a0:S_api_Container) (c0:S_api_Project):Option (Bool) :=
 (load_Service n c0 a0.f_Spec.f_Service).bind fun r1 =>
 some (!r1.2)
end Go.Proofs.YtaecmkldkljioaaGreat.M
