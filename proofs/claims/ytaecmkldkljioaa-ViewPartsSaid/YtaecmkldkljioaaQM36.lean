import Derived.Test.YtaecmkldkljioaaQM36c
set_option linter.all false
namespace Go.Proofs.Ytaecmkldkljioaa.M
open Go.RowKit Go.Proofs.Ytaecmkldkljioaa.RX
set_option maxRecDepth 100000
def law36_ViewParts_l2 (n:Nat) (v6:Int) (v7:Int) (b3:S_api_Project) (b5:S_ref36_Seen):Nat → Int → Option (Sum (Unit) (Bool))
 | 0,_=>none
 | k + 1,v8=>if (decide (v8 < v7)) = true then (if (decide (0 ≤ v8 ∧ v8 < (List.length b3.f_Services:Int))) = true then (if (decide (0 ≤ v7 ∧ v7 < (List.length b3.f_Services:Int))) = true then (lett (((((b3.f_Services)[Int.toNat v8]?.getD Z_api_Service).f_Name) == (((b3.f_Services)[Int.toNat v7]?.getD Z_api_Service).f_Name)):Bool) fun x4 =>
 if x4 = true then ((law36_awake n).bind fun r5 =>
 some (.inr r5))
 else (law36_ViewParts_l2 n v6 v7 b3 b5 k (IntKind.wrap .i64 (v8 + 1)))) else none) else none)
 else (some (.inl ()))
theorem ok_law36_ViewParts_l2 (n:Nat) (v6:Int) (v7:Int) (b3:S_api_Project) (b5:S_ref36_Seen) {F0:Fz} {w0:Pt Try.prog} {Q:Exit → Act → World → Prop} (k:Nat):∀ (v8:Int) (o:Sum (Unit) (Bool)),law36_ViewParts_l2 n v6 v7 b3 b5 k v8 = some o → (Sum.elim (fun s=>To 124 F0 w0 [(3,.own 3 0),(5,.own 5 0),(6,vi v6),(7,vi v7)] [(3,29,qc21 b3),(5,32,qc4 b5)] (.exit 2) Q) (fun s=>To 124 F0 w0 [(4,vb s)] [] .ret Q)) o → WL Try.prog 124 F0 w0 [(3,.own 3 0),(5,.own 5 0),(6,vi v6),(7,vi v7),(8,vi v8)] [(3,29,qc21 b3),(5,32,qc4 b5)] (cI (cI (cB (cA (cI (cA (cB (cI (cI (cB (cA (cB (cB (cB (cB (cF Try.f3)))))))))))))))) Q:=by
 induction k with
 | zero=>intro v8 o h; cases h
 | succ k ih =>
  intro v8 o h hQ
  rw [law36_ViewParts_l2] at h
  refine WL.round (Wp.seq (Wp.seq (rg [3,5,6,7,8,40] [3,5] [(3,.own 3 0),(5,.own 5 0),(6,vi v6),(7,vi v7),(8,vi v8),(40,vb (decide (v8 < v7)))] [(3,29,qc21 b3),(5,32,qc4 b5)] (To.thenN (cn h (fun h=>?_) (fun h=>?_))))))
  ·refine Wp.skip (To.thenN (Wp.seq (Wp.block (Wp.seq ?_))))
   obtain ⟨hc6,h⟩:=chk_of h
   obtain ⟨hc7,h⟩:=chk_of h
   obtain ⟨x4,hx4,h⟩:=lett_of h
   refine Wp.regionD hm hΓ [] [3,5,6,7,8,55] [3,5] (K':=[(3,.own 3 0),(5,.own 5 0),(6,vi v6),(7,vi v7),(8,vi v8),(55,vb ((((b3.f_Services)[Int.toNat v8]?.getD Z_api_Service).f_Name) == (((b3.f_Services)[Int.toNat v7]?.getD Z_api_Service).f_Name)))]) (L':=[(3,29,qc21 b3),(5,32,qc4 b5)]) (ob:=[(decide (0 ≤ v8 ∧ v8 < (ex19 b3))) = true,(decide (0 ≤ v7 ∧ v7 < (ex19 b3))) = true]) (by kernel_rfl) (AllP.cons hc6 (AllP.cons hc7 AllP.nil)) (To.eq (K':=[(3,.own 3 0),(5,.own 5 0),(6,vi v6),(7,vi v7),(8,vi v8),(55,vb x4)]) (L':=[(3,29,qc21 b3),(5,32,qc4 b5)]) (by cases hx4; rfl) (by cases hx4; rfl) (To.thenN (cn h (fun h=>?_) (fun h=>?_))))
   ·refine Wp.seq ?_
    obtain ⟨r5,hr5,h⟩:=bind_of h
    refine rc [] 0 [4] [] [(4,vb r5)] [] (ok_law36_awake n  _ hr5) (To.thenN (Wp.ret (To.blockR (To.thenR (To.thenR ?_)))))
    cases h
    exact hQ
   ·refine Wp.skip (To.blockN (To.thenN (rg [3,5,6,7,8] [3,5] [(3,.own 3 0),(5,.own 5 0),(6,vi v6),(7,vi v7),(ex2 v8)] [(3,29,qc21 b3),(5,32,qc4 b5)] (kt [3,5,6,7,8] [3,5] [(3,.own 3 0),(5,.own 5 0),(6,vi v6),(7,vi v7),(ex2 v8)] [(3,29,qc21 b3),(5,32,qc4 b5)] (To.again ?_)))))
    exact ih (IntKind.wrap .i64 (v8 + 1)) _ h hQ
  ·refine Wp.exit (To.thenX (To.thenX (kt [3,5,6,7] [3,5] [(3,.own 3 0),(5,.own 5 0),(6,vi v6),(7,vi v7)] [(3,29,qc21 b3),(5,32,qc4 b5)] ?_)))
   cases h
   exact hQ
def law36_ViewParts_l1 (n:Nat) (b3:S_api_Project) (b5:S_ref36_Seen):Nat → Int → Int → Option (Sum (Int) (Bool))
 | 0,_,_=>none
 | k + 1,v6,v7=>if (decide (v7 < (List.length b3.f_Services:Int))) = true then ((law36_ViewParts_l2 n v6 v7 b3 b5 n 0).bind fun o4 =>
 (Sum.elim (fun o4=>if (decide (0 ≤ v7 ∧ v7 < (List.length b3.f_Services:Int))) = true then ((view_Service n b5 b3.f_Name (((b3.f_Services)[Int.toNat v7]?.getD Z_api_Service).f_Name)).bind fun r5 =>
 law36_ViewParts_l1 n b3 b5 k (IntKind.wrap .i64 (v6 + (List.length r5:Int))) (IntKind.wrap .i64 (v7 + 1))) else none) (fun o4=>some (.inr o4))) o4)
 else (some (.inl v6))
theorem ok_law36_ViewParts_l1 (n:Nat) (b3:S_api_Project) (b5:S_ref36_Seen) {F0:Fz} {w0:Pt Try.prog} {Q:Exit → Act → World → Prop} (k:Nat):∀ (v6:Int) (v7:Int) (o:Sum (Int) (Bool)),law36_ViewParts_l1 n b3 b5 k v6 v7 = some o → (Sum.elim (fun s=>To 124 F0 w0 [(3,.own 3 0),(5,.own 5 0),(6,vi s)] [(3,29,qc21 b3),(5,32,qc4 b5)] (.exit 0) Q) (fun s=>To 124 F0 w0 [(4,vb s)] [] .ret Q)) o → WL Try.prog 124 F0 w0 [(3,.own 3 0),(5,.own 5 0),(6,vi v6),(7,vi v7)] [(3,29,qc21 b3),(5,32,qc4 b5)] (cI (cI (cB (cA (cB (cB (cB (cB (cF Try.f3))))))))) Q:=by
 induction k with
 | zero=>intro v6 v7 o h; cases h
 | succ k ih =>
  intro v6 v7 o h hQ
  rw [law36_ViewParts_l1] at h
  refine WL.round (Wp.seq (Wp.seq (rg [3,5,6,7,35] [3,5] [(3,.own 3 0),(5,.own 5 0),(6,vi v6),(7,vi v7),(35,vb (decide (v7 < (ex19 b3))))] [(3,29,qc21 b3),(5,32,qc4 b5)] (To.thenN (cn h (fun h=>?_) (fun h=>?_))))))
  ·refine Wp.skip (To.thenN (Wp.seq (Wp.block (Wp.seq (Wp.seq (rg [3,5,6,7,8] [3,5] [(3,.own 3 0),(5,.own 5 0),(6,vi v6),(7,vi v7),(8,vi 0)] [(3,29,qc21 b3),(5,32,qc4 b5)] (To.thenN (Wp.block ?_))))))))
   obtain ⟨o4,ho4,h⟩:=bind_of h
   refine kw [3,5,6,7,8] [3,5] [(3,.own 3 0),(5,.own 5 0),(6,vi v6),(7,vi v7),(8,vi 0)] [(3,29,qc21 b3),(5,32,qc4 b5)] (Wp.loopL (ok_law36_ViewParts_l2 n v6 v7 b3 b5 n 0 o4 ho4 ?_))
   rcases o4 with o4 | o4
   ·replace h:=sum_l h
    refine To.blockX (To.thenN ?_)
    obtain ⟨hc6,h⟩:=chk_of h
    obtain ⟨r5,hr5,h⟩:=bind_of h
    refine Wp.regionD hm hΓ [(10,rs2 r5)] [3,5,6,7] [3,5] (K':=[(3,.own 3 0),(5,.own 5 0),(6,vi (IntKind.wrap .i64 (v6 + (List.length r5:Int)))),(7,vi v7)]) (L':=[(3,29,qc21 b3),(5,32,qc4 b5)]) (ob:=[(decide (0 ≤ v7 ∧ v7 < (ex19 b3))) = true,(true = true → CX Try.prog 10 [.agg (qc4 b5),.str b3.f_Name,.str (((b3.f_Services)[Int.toNat v7]?.getD Z_api_Service).f_Name)] (rs2 r5))]) (by kernel_rfl) (AllP.cons hc6 (AllP.cons (fun _=>cx (ok_view_Service n b5 b3.f_Name (((b3.f_Services)[Int.toNat v7]?.getD Z_api_Service).f_Name) _ hr5)) AllP.nil)) (To.blockN (To.thenN (rg [3,5,6,7] [3,5] [(3,.own 3 0),(5,.own 5 0),(6,vi (IntKind.wrap .i64 (v6 + (List.length r5:Int)))),(7,vi (IntKind.wrap .i64 (v7 + 1)))] [(3,29,qc21 b3),(5,32,qc4 b5)] (kt [3,5,6,7] [3,5] [(3,.own 3 0),(5,.own 5 0),(6,vi (IntKind.wrap .i64 (v6 + (List.length r5:Int)))),(7,vi (IntKind.wrap .i64 (v7 + 1)))] [(3,29,qc21 b3),(5,32,qc4 b5)] (To.again ?_)))))
    exact ih (IntKind.wrap .i64 (v6 + (List.length r5:Int))) (IntKind.wrap .i64 (v7 + 1)) _ h hQ
   ·replace h:=sum_r h
    refine To.blockR (To.thenR (To.blockR (To.thenR (To.thenR (kt [4] [] [(4,vb o4)] [] ?_)))))
    cases h
    exact hQ
  ·refine Wp.exit (To.thenX (To.thenX (kt [3,5,6] [3,5] [(3,.own 3 0),(5,.own 5 0),(6,vi v6)] [(3,29,qc21 b3),(5,32,qc4 b5)] ?_)))
   cases h
   exact hQ
def law36_ViewParts_j5 (n:Nat) (v6:Int) (v9:List (S_api_Container)) (v10:Int) (v13:List (S_api_Container)) (v94:Bool) (b3:S_api_Project) (b5:S_ref36_Seen):Option ((List (S_api_Container))) :=
 if v94 = true then (if (decide (0 ≤ v10 ∧ v10 < (List.length v9:Int))) = true then ((view_Service n b5 b3.f_Name (((v9)[Int.toNat v10]?.getD Z_api_Container).f_Spec.f_Service)).bind fun r8 =>
 some r8) else none)
 else some v13
theorem ok_law36_ViewParts_j5 (n:Nat) (v6:Int) (v9:List (S_api_Container)) (v10:Int) (v13:List (S_api_Container)) (v94:Bool) (b3:S_api_Project) (b5:S_ref36_Seen) (o:(List (S_api_Container))) (h:law36_ViewParts_j5 n v6 v9 v10 v13 v94 b3 b5 = some o) {F0:Fz} {w0:Pt Try.prog} {Q:Exit → Act → World → Prop} (hQ:To 124 F0 w0 [(3,.own 3 0),(5,.own 5 0),(6,vi v6),(9,rs2 v9),(10,vi v10),(13,rs2 o)] [(3,29,qc21 b3),(5,32,qc4 b5)] .normal Q):Wp Try.prog 124 F0 w0 [(3,.own 3 0),(5,.own 5 0),(6,vi v6),(9,rs2 v9),(10,vi v10),(13,rs2 v13),(94,vb v94)] [(3,29,qc21 b3),(5,32,qc4 b5)] (cB (cA (cB (cB (cI (cA (cB (cI (cI (cB (cA (cB (cB (cB (cB (cB (cB (cF Try.f3)))))))))))))))))) Q:=by
 unfold law36_ViewParts_j5 at h
 refine cn h (fun h=>?_) (fun h=>?_)
 ·obtain ⟨hc9,h⟩:=chk_of h
  obtain ⟨r8,hr8,h⟩:=bind_of h
  refine Wp.regionD hm hΓ [(9,rs2 r8)] [3,5,6,9,10,13] [3,5] (K':=[(3,.own 3 0),(5,.own 5 0),(6,vi v6),(9,rs2 v9),(10,vi v10),(13,rs2 r8)]) (L':=[(3,29,qc21 b3),(5,32,qc4 b5)]) (ob:=[(ex6 v10 v9) = true,(true = true → CX Try.prog 10 [.agg (qc4 b5),.str b3.f_Name,.str (ex25 v9 v10)] (rs2 r8))]) (by kernel_rfl) (AllP.cons hc9 (AllP.cons (fun _=>cx (ok_view_Service n b5 b3.f_Name (ex25 v9 v10) _ hr8)) AllP.nil)) (kt [3,5,6,9,10,13] [3,5] [(3,.own 3 0),(5,.own 5 0),(6,vi v6),(9,rs2 v9),(10,vi v10),(13,rs2 r8)] [(3,29,qc21 b3),(5,32,qc4 b5)] ?_)
  cases h
  exact hQ
 ·refine Wp.skip (kt [3,5,6,9,10,13] [3,5] [(3,.own 3 0),(5,.own 5 0),(6,vi v6),(9,rs2 v9),(10,vi v10),(13,rs2 v13)] [(3,29,qc21 b3),(5,32,qc4 b5)] ?_)
  cases h
  exact hQ
def law36_ViewParts_j4 (n:Nat) (v6:Int) (v9:List (S_api_Container)) (v10:Int) (b3:S_api_Project) (b5:S_ref36_Seen):Option (Sum (Unit) (Bool)) :=
 if (decide (0 ≤ v10 ∧ v10 < (List.length v9:Int))) = true then ((load_Service n b3 (((v9)[Int.toNat v10]?.getD Z_api_Container).f_Spec.f_Service)).bind fun r6 =>
 (view_Orphans n b5 b3).bind fun r7 =>
 (law36_ViewParts_j5 n v6 v9 v10 r7 r6.2 b3 b5).bind fun o8 =>
 if (decide (0 ≤ v10 ∧ v10 < (List.length v9:Int))) = true then ((view_Find n o8 (((v9)[Int.toNat v10]?.getD Z_api_Container).f_Id)).bind fun r9 =>
 if (!r9.2) = true then (some (.inr false))
 else (some (.inl ()))) else none) else none
theorem ok_law36_ViewParts_j4 (n:Nat) (v6:Int) (v9:List (S_api_Container)) (v10:Int) (b3:S_api_Project) (b5:S_ref36_Seen) (o:Sum (Unit) (Bool)) (h:law36_ViewParts_j4 n v6 v9 v10 b3 b5 = some o) {F0:Fz} {w0:Pt Try.prog} {Q:Exit → Act → World → Prop} (hQ:(Sum.elim (fun s=>To 124 F0 w0 [(3,.own 3 0),(5,.own 5 0),(6,vi v6),(9,rs2 v9),(10,vi v10)] [(3,29,qc21 b3),(5,32,qc4 b5)] .normal Q) (fun s=>To 124 F0 w0 [(4,vb s)] [] .ret Q)) o):Wp Try.prog 124 F0 w0 [(3,.own 3 0),(5,.own 5 0),(6,vi v6),(9,rs2 v9),(10,vi v10)] [(3,29,qc21 b3),(5,32,qc4 b5)] (cA (cB (cI (cI (cB (cA (cB (cB (cB (cB (cB (cB (cF Try.f3))))))))))))) Q:=by
 unfold law36_ViewParts_j4 at h
 refine Wp.block (Wp.seq ?_)
 obtain ⟨hc11,h⟩:=chk_of h
 obtain ⟨r6,hr6,h⟩:=bind_of h
 refine Wp.regionD hm hΓ [(7,.tup [.agg (qc19 r6.1),vb r6.2])] [3,5,6,9,10,12] [3,5] (K':=[(3,.own 3 0),(5,.own 5 0),(6,vi v6),(9,rs2 v9),(10,vi v10),(12,vb r6.2)]) (L':=[(3,29,qc21 b3),(5,32,qc4 b5)]) (ob:=[(ex6 v10 v9) = true,(true = true → CX Try.prog 12 [.agg (qc21 b3),.str (ex25 v9 v10)] (.tup [.agg (qc19 r6.1),vb r6.2]))]) (by kernel_rfl) (AllP.cons hc11 (AllP.cons (fun _=>cx (ok_load_Service n b3 (ex25 v9 v10) _ hr6)) AllP.nil)) (To.thenN (Wp.seq ?_))
 obtain ⟨r7,hr7,h⟩:=bind_of h
 refine rc [] 2 [3,5,6,9,10,12,13] [3,5] [(3,.own 3 0),(5,.own 5 0),(6,vi v6),(9,rs2 v9),(10,vi v10),(12,vb r6.2),(13,rs2 r7)] [(3,29,qc21 b3),(5,32,qc4 b5)] (ok_view_Orphans n b5 b3 _ hr7) (To.thenN (Wp.seq (Wp.seq (rg [3,5,6,9,10,13,94] [3,5] [(3,.own 3 0),(5,.own 5 0),(6,vi v6),(9,rs2 v9),(10,vi v10),(13,rs2 r7),(94,vb r6.2)] [(3,29,qc21 b3),(5,32,qc4 b5)] (To.thenN ?_)))))
 obtain ⟨o8,ho8,h⟩:=bind_of h
 refine kw [3,5,6,9,10,13,94] [3,5] [(3,.own 3 0),(5,.own 5 0),(6,vi v6),(9,rs2 v9),(10,vi v10),(13,rs2 r7),(94,vb r6.2)] [(3,29,qc21 b3),(5,32,qc4 b5)] (ok_law36_ViewParts_j5 n v6 v9 v10 r7 r6.2 b3 b5 o8 ho8 (To.thenN (Wp.seq ?_)))
 obtain ⟨hc10,h⟩:=chk_of h
 obtain ⟨r9,hr9,h⟩:=bind_of h
 refine rr [] [(6,.tup [.agg (qc5 r9.1),vb r9.2])] [] [3,5,6,9,10,15] [3,5] [(3,.own 3 0),(5,.own 5 0),(6,vi v6),(9,rs2 v9),(10,vi v10),(15,vb r9.2)] [(3,29,qc21 b3),(5,32,qc4 b5)] [_,_] (AllP.cons hc10 (AllP.cons (c1 (ok_view_Find n o8 ((ex5 v9 v10).f_Id) _ hr9)) AllP.nil)) (To.thenN (Wp.seq (rg [3,5,6,9,10,116] [3,5] [(3,.own 3 0),(5,.own 5 0),(6,vi v6),(9,rs2 v9),(10,vi v10),(116,vb (!r9.2))] [(3,29,qc21 b3),(5,32,qc4 b5)] (To.thenN (cn h (fun h=>?_) (fun h=>?_))))))
 ·refine Wp.seq (rg [4] [] [(4,vb false)] [] (To.thenN (Wp.ret (To.blockR ?_))))
  cases h
  exact hQ
 ·refine Wp.skip (To.blockN (kt [3,5,6,9,10] [3,5] [(3,.own 3 0),(5,.own 5 0),(6,vi v6),(9,rs2 v9),(10,vi v10)] [(3,29,qc21 b3),(5,32,qc4 b5)] ?_))
  cases h
  exact hQ
def law36_ViewParts_l3 (n:Nat) (v6:Int) (v9:List (S_api_Container)) (b3:S_api_Project) (b5:S_ref36_Seen):Nat → Int → Option (Sum (Unit) (Bool))
 | 0,_=>none
 | k + 1,v10=>if (decide (v10 < (List.length v9:Int))) = true then ((law36_ViewParts_j4 n v6 v9 v10 b3 b5).bind fun o6 =>
 (Sum.elim (fun o6=>law36_ViewParts_l3 n v6 v9 b3 b5 k (IntKind.wrap .i64 (v10 + 1))) (fun o6=>some (.inr o6))) o6)
 else (some (.inl ()))
theorem ok_law36_ViewParts_l3 (n:Nat) (v6:Int) (v9:List (S_api_Container)) (b3:S_api_Project) (b5:S_ref36_Seen) {F0:Fz} {w0:Pt Try.prog} {Q:Exit → Act → World → Prop} (k:Nat):∀ (v10:Int) (o:Sum (Unit) (Bool)),law36_ViewParts_l3 n v6 v9 b3 b5 k v10 = some o → (Sum.elim (fun s=>To 124 F0 w0 [(6,vi v6),(9,rs2 v9)] [] (.exit 4) Q) (fun s=>To 124 F0 w0 [(4,vb s)] [] .ret Q)) o → WL Try.prog 124 F0 w0 [(3,.own 3 0),(5,.own 5 0),(6,vi v6),(9,rs2 v9),(10,vi v10)] [(3,29,qc21 b3),(5,32,qc4 b5)] (cI (cI (cB (cA (cB (cB (cB (cB (cB (cB (cF Try.f3))))))))))) Q:=by
 induction k with
 | zero=>intro v10 o h; cases h
 | succ k ih =>
  intro v10 o h hQ
  rw [law36_ViewParts_l3] at h
  refine WL.round (Wp.seq (Wp.seq (rg [3,5,6,9,10,77] [3,5] [(3,.own 3 0),(5,.own 5 0),(6,vi v6),(9,rs2 v9),(10,vi v10),(77,vb (decide (v10 < (List.length v9:Int))))] [(3,29,qc21 b3),(5,32,qc4 b5)] (To.thenN (cn h (fun h=>?_) (fun h=>?_))))))
  ·refine Wp.skip (To.thenN (Wp.seq ?_))
   obtain ⟨o6,ho6,h⟩:=bind_of h
   refine kw [3,5,6,9,10] [3,5] [(3,.own 3 0),(5,.own 5 0),(6,vi v6),(9,rs2 v9),(10,vi v10)] [(3,29,qc21 b3),(5,32,qc4 b5)] (ok_law36_ViewParts_j4 n v6 v9 v10 b3 b5 o6 ho6 ?_)
   rcases o6 with o6 | o6
   ·replace h:=sum_l h
    refine To.thenN (rg [3,5,6,9,10] [3,5] [(3,.own 3 0),(5,.own 5 0),(6,vi v6),(9,rs2 v9),(ex7 v10)] [(3,29,qc21 b3),(5,32,qc4 b5)] (kt [3,5,6,9,10] [3,5] [(3,.own 3 0),(5,.own 5 0),(6,vi v6),(9,rs2 v9),(ex7 v10)] [(3,29,qc21 b3),(5,32,qc4 b5)] (To.again ?_)))
    exact ih (IntKind.wrap .i64 (v10 + 1)) _ h hQ
   ·replace h:=sum_r h
    refine To.thenR (To.thenR (kt [4] [] [(4,vb o6)] [] ?_))
    cases h
    exact hQ
  ·refine Wp.exit (To.thenX (To.thenX (kt [6,9] [] [(6,vi v6),(9,rs2 v9)] [] ?_)))
   cases h
   exact hQ
def law36_ViewParts (n:Nat) (a0:S_ref36_Seen) (a1:S_api_Project):Option (Bool) :=
 (law36_Few n a0).bind fun r1 =>
 if (bif (!r1) then true else (decide ((List.length a1.f_Services:Int) > 20))) = true then ((law36_awake n).bind fun r2 =>
 some r2)
 else ((view_Orphans n a0 a1).bind fun r3 =>
 (law36_ViewParts_l1 n a1 a0 n (List.length r3:Int) 0).bind fun o4 =>
 (Sum.elim (fun o4=>(view_Mine n a0 a1.f_Name).bind fun r5 =>
 (law36_ViewParts_l3 n o4 r5 a1 a0 n 0).bind fun o6 =>
 (Sum.elim (fun o6=>((if ((o4 == (List.length r5:Int)) == true) = true then law36_awake n else some false)).bind fun r7 =>
 some (bif (o4 == (List.length r5:Int)) then r7 else false)) (fun o6=>some o6)) o6) (fun o4=>some o4)) o4)
theorem ok_law36_ViewParts (n:Nat) (a0:S_ref36_Seen) (a1:S_api_Project) (r:Bool) (h:law36_ViewParts n a0 a1 = some r):CallsX Try.prog 3 [.agg (qc4 a0),.agg (qc21 a1)] (vb r):=by
 unfold law36_ViewParts at h
 refine xo Try.f3 rfl fun F0 w0 _=>?_
 refine Wp.seq (rg [2,3] [2,3] [(2,.own 2 0),(3,.own 3 0)] [(2,25,qc4 a0),(3,29,qc21 a1)] (To.thenN (Wp.seq (Wp.seq ?_))))
 obtain ⟨r1,hr1,h⟩:=bind_of h
 refine rc [] 1 [2,3,24] [2,3] [(2,.own 2 0),(3,.own 3 0),(24,vb (bif (!r1) then true else (decide ((ex19 a1) > 20))))] [(2,25,qc4 a0),(3,29,qc21 a1)] (ok_law36_Few n a0 _ hr1) (To.thenN (cn h (fun h=>?_) (fun h=>?_)))
 ·refine Wp.seq ?_
  obtain ⟨r2,hr2,h⟩:=bind_of h
  refine rc [] 0 [4] [] [(4,vb r2)] [] (ok_law36_awake n  _ hr2) (To.thenN (Wp.ret (To.thenR ?_)))
  cases h
  exact To.done hΓ (by kernel_rfl)
 ·refine Wp.skip (To.thenN (Wp.seq (rg [3,5] [3,5] [(3,.own 3 0),(5,.own 5 0)] [(3,29,qc21 a1),(5,32,qc4 a0)] (To.thenN (Wp.seq ?_)))))
  obtain ⟨r3,hr3,h⟩:=bind_of h
  refine rc [] 2 [3,5,6] [3,5] [(3,.own 3 0),(5,.own 5 0),(6,vi (List.length r3:Int))] [(3,29,qc21 a1),(5,32,qc4 a0)] (ok_view_Orphans n a0 a1 _ hr3) (To.thenN (Wp.seq (Wp.seq (rg [3,5,6,7] [3,5] [(3,.own 3 0),(5,.own 5 0),(6,vi (List.length r3:Int)),(7,vi 0)] [(3,29,qc21 a1),(5,32,qc4 a0)] (To.thenN (Wp.block ?_))))))
  obtain ⟨o4,ho4,h⟩:=bind_of h
  refine kw [3,5,6,7] [3,5] [(3,.own 3 0),(5,.own 5 0),(6,vi (List.length r3:Int)),(7,vi 0)] [(3,29,qc21 a1),(5,32,qc4 a0)] (Wp.loopL (ok_law36_ViewParts_l1 n a1 a0 n (List.length r3:Int) 0 o4 ho4 ?_))
  rcases o4 with o4 | o4
  ·replace h:=sum_l h
   refine To.blockX (To.thenN (Wp.seq ?_))
   obtain ⟨r5,hr5,h⟩:=bind_of h
   refine rc [] 3 [3,5,6,9] [3,5] [(3,.own 3 0),(5,.own 5 0),(6,vi o4),(9,rs2 r5)] [(3,29,qc21 a1),(5,32,qc4 a0)] (ok_view_Mine n a0 a1.f_Name _ hr5) (To.thenN (Wp.seq (Wp.seq (rg [3,5,6,9,10] [3,5] [(3,.own 3 0),(5,.own 5 0),(6,vi o4),(9,rs2 r5),(10,vi 0)] [(3,29,qc21 a1),(5,32,qc4 a0)] (To.thenN (Wp.block ?_))))))
   obtain ⟨o6,ho6,h⟩:=bind_of h
   refine kw [3,5,6,9,10] [3,5] [(3,.own 3 0),(5,.own 5 0),(6,vi o4),(9,rs2 r5),(10,vi 0)] [(3,29,qc21 a1),(5,32,qc4 a0)] (Wp.loopL (ok_law36_ViewParts_l3 n o4 r5 a1 a0 n 0 o6 ho6 ?_))
   rcases o6 with o6 | o6
   ·replace h:=sum_l h
    refine To.blockX (To.thenN (Wp.seq ?_))
    obtain ⟨r7,hr7,h⟩:=bind_of h
    refine rr [] [(5,vb r7)] [] [4] [] [(4,vb (bif (o4 == (List.length r5:Int)) then r7 else false))] [] [(((o4 == (List.length r5:Int)) == true) = true → CX Try.prog 8 [] (vb r7))] (AllP.cons (fun hg=>cx (ok_law36_awake n  _ (if_t hg hr7))) AllP.nil) (To.thenN (Wp.ret ?_))
    cases h
    exact To.done hΓ (by kernel_rfl)
   ·replace h:=sum_r h
    refine To.blockR (To.thenR ?_)
    cases h
    exact To.done hΓ (by kernel_rfl)
  ·replace h:=sum_r h
   refine To.blockR (To.thenR ?_)
   cases h
   exact To.done hΓ (by kernel_rfl)
theorem opens_i64:Opens Try.prog 3 (fun n:Int=>IntKind.min .i64 ≤ n ∧ n ≤ IntKind.max .i64) (fun n=>[.val (.int .i64 n)]):=opens_int (by kernel_rfl)
theorem opens_string:Opens Try.prog 9 (fun l:List UInt8=>l.length ≤ maxLen) (fun l=>[.str l]):=opens_str (by kernel_rfl)
def W_Lstring (l:List (List UInt8)):Prop:=l.length ≤ maxLen ∧ ∀ x ∈ l,(List.length x ≤ maxLen)
theorem opens_Lstring:Opens Try.prog 27 W_Lstring (fun l=>[.recs (α:=List UInt8) [] E_string l]):=opens_slice (α:=List UInt8) (cells:=E_string) [] (by kernel_rfl) (by kernel_rfl) (of_decide_eq_true (by kernel_rfl)) opens_string
def W_api_Check (x:S_api_Check):Prop:=(List.length x.f_Test ≤ maxLen) ∧ (IntKind.min .i64 ≤ x.f_Every ∧ x.f_Every ≤ IntKind.max .i64) ∧ (IntKind.min .i64 ≤ x.f_Start ∧ x.f_Start ≤ IntKind.max .i64) ∧ (IntKind.min .i64 ≤ x.f_Retries ∧ x.f_Retries ≤ IntKind.max .i64)
theorem opens_api_Check:Opens Try.prog 39 W_api_Check (fun x=>[.str x.f_Test,.val (.int .i64 x.f_Every),.val (.int .i64 x.f_Start),.val (.int .i64 x.f_Retries)]):=by
 intro H enc W fuel cs d ps h
 obtain ⟨hl,hf⟩:=field_of Try.underlying39 h
 have hl:cs.length = 4:=hl.trans (by kernel_rfl)
 obtain ⟨x0,w0,r0⟩:=hf 0 _ rfl opens_string
 have r0:=repAt (a':=0) (b':=1) r0 (by kernel_rfl) (by kernel_rfl)
 obtain ⟨x1,w1,r1⟩:=hf 1 _ rfl opens_i64
 have r1:=repAt (a':=1) (b':=1) r1 (by kernel_rfl) (by kernel_rfl)
 obtain ⟨x2,w2,r2⟩:=hf 2 _ rfl opens_i64
 have r2:=repAt (a':=2) (b':=1) r2 (by kernel_rfl) (by kernel_rfl)
 obtain ⟨x3,w3,r3⟩:=hf 3 _ rfl opens_i64
 have r3:=repAt (a':=3) (b':=1) r3 (by kernel_rfl) (by kernel_rfl)
 refine ⟨⟨x0,x1,x2,x3⟩,⟨w0,w1,w2,w3⟩,?_⟩
 refine parts_all (l:=[([.str x0],1),([.val (.int .i64 x1)],1),([.val (.int .i64 x2)],1),([.val (.int .i64 x3)],1)]) ⟨r0,r1,r2,r3,Nat.le_of_eq hl⟩ rfl
def W_api_Spec (x:S_api_Spec):Prop:=(List.length x.f_Name ≤ maxLen) ∧ (List.length x.f_Project ≤ maxLen) ∧ (List.length x.f_Service ≤ maxLen) ∧ (IntKind.min .i64 ≤ x.f_Number ∧ x.f_Number ≤ IntKind.max .i64) ∧ (List.length x.f_Hash ≤ maxLen) ∧ (W_Lstring x.f_Nets) ∧ (W_Lstring x.f_Vols) ∧ (W_api_Check x.f_Health) ∧ (IntKind.min .i64 ≤ x.f_Restart ∧ x.f_Restart ≤ IntKind.max .i64) ∧ (IntKind.min .i64 ≤ x.f_Tries ∧ x.f_Tries ≤ IntKind.max .i64)
theorem opens_api_Spec:Opens Try.prog 47 W_api_Spec (fun x=>[.str x.f_Name,.str x.f_Project,.str x.f_Service,.val (.int .i64 x.f_Number),.str x.f_Hash,.recs (α:=List UInt8) [] E_string x.f_Nets,.recs (α:=List UInt8) [] E_string x.f_Vols,.str x.f_Health.f_Test,.val (.int .i64 x.f_Health.f_Every),.val (.int .i64 x.f_Health.f_Start),.val (.int .i64 x.f_Health.f_Retries),.val (.int .i64 x.f_Restart),.val (.int .i64 x.f_Tries)]):=by
 intro H enc W fuel cs d ps h
 obtain ⟨hl,hf⟩:=field_of Try.underlying47 h
 have hl:cs.length = 13:=hl.trans (by kernel_rfl)
 obtain ⟨x0,w0,r0⟩:=hf 0 _ rfl opens_string
 have r0:=repAt (a':=0) (b':=1) r0 (by kernel_rfl) (by kernel_rfl)
 obtain ⟨x1,w1,r1⟩:=hf 1 _ rfl opens_string
 have r1:=repAt (a':=1) (b':=1) r1 (by kernel_rfl) (by kernel_rfl)
 obtain ⟨x2,w2,r2⟩:=hf 2 _ rfl opens_string
 have r2:=repAt (a':=2) (b':=1) r2 (by kernel_rfl) (by kernel_rfl)
 obtain ⟨x3,w3,r3⟩:=hf 3 _ rfl opens_i64
 have r3:=repAt (a':=3) (b':=1) r3 (by kernel_rfl) (by kernel_rfl)
 obtain ⟨x4,w4,r4⟩:=hf 4 _ rfl opens_string
 have r4:=repAt (a':=4) (b':=1) r4 (by kernel_rfl) (by kernel_rfl)
 obtain ⟨x5,w5,r5⟩:=hf 5 _ rfl opens_Lstring
 have r5:=repAt (a':=5) (b':=1) r5 (by kernel_rfl) (by kernel_rfl)
 obtain ⟨x6,w6,r6⟩:=hf 6 _ rfl opens_Lstring
 have r6:=repAt (a':=6) (b':=1) r6 (by kernel_rfl) (by kernel_rfl)
 obtain ⟨x7,w7,r7⟩:=hf 7 _ rfl opens_api_Check
 have r7:=repAt (a':=7) (b':=4) r7 (by kernel_rfl) (by kernel_rfl)
 obtain ⟨x8,w8,r8⟩:=hf 8 _ rfl opens_i64
 have r8:=repAt (a':=11) (b':=1) r8 (by kernel_rfl) (by kernel_rfl)
 obtain ⟨x9,w9,r9⟩:=hf 9 _ rfl opens_i64
 have r9:=repAt (a':=12) (b':=1) r9 (by kernel_rfl) (by kernel_rfl)
 refine ⟨⟨x0,x1,x2,x3,x4,x5,x6,x7,x8,x9⟩,⟨w0,w1,w2,w3,w4,w5,w6,w7,w8,w9⟩,?_⟩
 refine parts_all (l:=[([.str x0],1),([.str x1],1),([.str x2],1),([.val (.int .i64 x3)],1),([.str x4],1),([.recs (α:=List UInt8) [] E_string x5],1),([.recs (α:=List UInt8) [] E_string x6],1),([.str x7.f_Test,.val (.int .i64 x7.f_Every),.val (.int .i64 x7.f_Start),.val (.int .i64 x7.f_Retries)],4),([.val (.int .i64 x8)],1),([.val (.int .i64 x9)],1)]) ⟨r0,r1,r2,r3,r4,r5,r6,r7,r8,r9,Nat.le_of_eq hl⟩ rfl
def W_api_Container (x:S_api_Container):Prop:=(IntKind.min .i64 ≤ x.f_Id ∧ x.f_Id ≤ IntKind.max .i64) ∧ (W_api_Spec x.f_Spec) ∧ (IntKind.min .i64 ≤ x.f_State ∧ x.f_State ≤ IntKind.max .i64) ∧ (IntKind.min .i64 ≤ x.f_Code ∧ x.f_Code ≤ IntKind.max .i64) ∧ (IntKind.min .i64 ≤ x.f_Health ∧ x.f_Health ≤ IntKind.max .i64) ∧ (IntKind.min .i64 ≤ x.f_Runs ∧ x.f_Runs ≤ IntKind.max .i64)
theorem opens_api_Container:Opens Try.prog 49 W_api_Container (fun x=>[.val (.int .i64 x.f_Id),.str x.f_Spec.f_Name,.str x.f_Spec.f_Project,.str x.f_Spec.f_Service,.val (.int .i64 x.f_Spec.f_Number),.str x.f_Spec.f_Hash,.recs (α:=List UInt8) [] E_string x.f_Spec.f_Nets,.recs (α:=List UInt8) [] E_string x.f_Spec.f_Vols,.str x.f_Spec.f_Health.f_Test,.val (.int .i64 x.f_Spec.f_Health.f_Every),.val (.int .i64 x.f_Spec.f_Health.f_Start),.val (.int .i64 x.f_Spec.f_Health.f_Retries),.val (.int .i64 x.f_Spec.f_Restart),.val (.int .i64 x.f_Spec.f_Tries),.val (.int .i64 x.f_State),.val (.int .i64 x.f_Code),.val (.int .i64 x.f_Health),.val (.int .i64 x.f_Runs)]):=by
 intro H enc W fuel cs d ps h
 obtain ⟨hl,hf⟩:=field_of Try.underlying49 h
 have hl:cs.length = 18:=hl.trans (by kernel_rfl)
 obtain ⟨x0,w0,r0⟩:=hf 0 _ rfl opens_i64
 have r0:=repAt (a':=0) (b':=1) r0 (by kernel_rfl) (by kernel_rfl)
 obtain ⟨x1,w1,r1⟩:=hf 1 _ rfl opens_api_Spec
 have r1:=repAt (a':=1) (b':=13) r1 (by kernel_rfl) (by kernel_rfl)
 obtain ⟨x2,w2,r2⟩:=hf 2 _ rfl opens_i64
 have r2:=repAt (a':=14) (b':=1) r2 (by kernel_rfl) (by kernel_rfl)
 obtain ⟨x3,w3,r3⟩:=hf 3 _ rfl opens_i64
 have r3:=repAt (a':=15) (b':=1) r3 (by kernel_rfl) (by kernel_rfl)
 obtain ⟨x4,w4,r4⟩:=hf 4 _ rfl opens_i64
 have r4:=repAt (a':=16) (b':=1) r4 (by kernel_rfl) (by kernel_rfl)
 obtain ⟨x5,w5,r5⟩:=hf 5 _ rfl opens_i64
 have r5:=repAt (a':=17) (b':=1) r5 (by kernel_rfl) (by kernel_rfl)
 refine ⟨⟨x0,x1,x2,x3,x4,x5⟩,⟨w0,w1,w2,w3,w4,w5⟩,?_⟩
 refine parts_all (l:=[([.val (.int .i64 x0)],1),([.str x1.f_Name,.str x1.f_Project,.str x1.f_Service,.val (.int .i64 x1.f_Number),.str x1.f_Hash,.recs (α:=List UInt8) [] E_string x1.f_Nets,.recs (α:=List UInt8) [] E_string x1.f_Vols,.str x1.f_Health.f_Test,.val (.int .i64 x1.f_Health.f_Every),.val (.int .i64 x1.f_Health.f_Start),.val (.int .i64 x1.f_Health.f_Retries),.val (.int .i64 x1.f_Restart),.val (.int .i64 x1.f_Tries)],13),([.val (.int .i64 x2)],1),([.val (.int .i64 x3)],1),([.val (.int .i64 x4)],1),([.val (.int .i64 x5)],1)]) ⟨r0,r1,r2,r3,r4,r5,Nat.le_of_eq hl⟩ rfl
def W_Lapi_Container (l:List (S_api_Container)):Prop:=l.length ≤ maxLen ∧ ∀ x ∈ l,(W_api_Container x)
theorem opens_Lapi_Container:Opens Try.prog 22 W_Lapi_Container (fun l=>[.recs (α:=S_api_Container) Z_api_Container E_api_Container l]):=opens_slice (α:=S_api_Container) (cells:=E_api_Container) Z_api_Container (by kernel_rfl) (by kernel_rfl) (of_decide_eq_true (by kernel_rfl)) opens_api_Container
def W_api_Kept (x:S_api_Kept):Prop:=(List.length x.f_Name ≤ maxLen) ∧ (List.length x.f_Project ≤ maxLen)
theorem opens_api_Kept:Opens Try.prog 78 W_api_Kept (fun x=>[.str x.f_Name,.str x.f_Project]):=by
 intro H enc W fuel cs d ps h
 obtain ⟨hl,hf⟩:=field_of Try.underlying78 h
 have hl:cs.length = 2:=hl.trans (by kernel_rfl)
 obtain ⟨x0,w0,r0⟩:=hf 0 _ rfl opens_string
 have r0:=repAt (a':=0) (b':=1) r0 (by kernel_rfl) (by kernel_rfl)
 obtain ⟨x1,w1,r1⟩:=hf 1 _ rfl opens_string
 have r1:=repAt (a':=1) (b':=1) r1 (by kernel_rfl) (by kernel_rfl)
 refine ⟨⟨x0,x1⟩,⟨w0,w1⟩,?_⟩
 refine parts_all (l:=[([.str x0],1),([.str x1],1)]) ⟨r0,r1,Nat.le_of_eq hl⟩ rfl
def W_Lapi_Kept (l:List (S_api_Kept)):Prop:=l.length ≤ maxLen ∧ ∀ x ∈ l,(W_api_Kept x)
theorem opens_Lapi_Kept:Opens Try.prog 23 W_Lapi_Kept (fun l=>[.recs (α:=S_api_Kept) (S_api_Kept.mk [] []) E_api_Kept l]):=opens_slice (α:=S_api_Kept) (cells:=E_api_Kept) (S_api_Kept.mk [] []) (by kernel_rfl) (by kernel_rfl) (of_decide_eq_true (by kernel_rfl)) opens_api_Kept
def W_ref36_Seen (x:S_ref36_Seen):Prop:=(W_Lapi_Container x.f_Boxes) ∧ (W_Lapi_Kept x.f_Nets) ∧ (W_Lapi_Kept x.f_Vols)
theorem opens_ref36_Seen:Opens Try.prog 25 W_ref36_Seen (fun x=>[.recs (α:=S_api_Container) Z_api_Container E_api_Container x.f_Boxes,.recs (α:=S_api_Kept) (S_api_Kept.mk [] []) E_api_Kept x.f_Nets,.recs (α:=S_api_Kept) (S_api_Kept.mk [] []) E_api_Kept x.f_Vols]):=by
 intro H enc W fuel cs d ps h
 obtain ⟨hl,hf⟩:=field_of Try.underlying25 h
 have hl:cs.length = 3:=hl.trans (by kernel_rfl)
 obtain ⟨x0,w0,r0⟩:=hf 0 _ rfl opens_Lapi_Container
 have r0:=repAt (a':=0) (b':=1) r0 (by kernel_rfl) (by kernel_rfl)
 obtain ⟨x1,w1,r1⟩:=hf 1 _ rfl opens_Lapi_Kept
 have r1:=repAt (a':=1) (b':=1) r1 (by kernel_rfl) (by kernel_rfl)
 obtain ⟨x2,w2,r2⟩:=hf 2 _ rfl opens_Lapi_Kept
 have r2:=repAt (a':=2) (b':=1) r2 (by kernel_rfl) (by kernel_rfl)
 refine ⟨⟨x0,x1,x2⟩,⟨w0,w1,w2⟩,?_⟩
 refine parts_all (l:=[([.recs (α:=S_api_Container) Z_api_Container E_api_Container x0],1),([.recs (α:=S_api_Kept) (S_api_Kept.mk [] []) E_api_Kept x1],1),([.recs (α:=S_api_Kept) (S_api_Kept.mk [] []) E_api_Kept x2],1)]) ⟨r0,r1,r2,Nat.le_of_eq hl⟩ rfl
def W_api_Var (x:S_api_Var):Prop:=(List.length x.f_Key ≤ maxLen) ∧ (List.length x.f_Val ≤ maxLen)
theorem opens_api_Var:Opens Try.prog 199 W_api_Var (fun x=>[.str x.f_Key,.str x.f_Val]):=by
 intro H enc W fuel cs d ps h
 obtain ⟨hl,hf⟩:=field_of Try.underlying199 h
 have hl:cs.length = 2:=hl.trans (by kernel_rfl)
 obtain ⟨x0,w0,r0⟩:=hf 0 _ rfl opens_string
 have r0:=repAt (a':=0) (b':=1) r0 (by kernel_rfl) (by kernel_rfl)
 obtain ⟨x1,w1,r1⟩:=hf 1 _ rfl opens_string
 have r1:=repAt (a':=1) (b':=1) r1 (by kernel_rfl) (by kernel_rfl)
 refine ⟨⟨x0,x1⟩,⟨w0,w1⟩,?_⟩
 refine parts_all (l:=[([.str x0],1),([.str x1],1)]) ⟨r0,r1,Nat.le_of_eq hl⟩ rfl
def W_Lapi_Var (l:List (S_api_Var)):Prop:=l.length ≤ maxLen ∧ ∀ x ∈ l,(W_api_Var x)
theorem opens_Lapi_Var:Opens Try.prog 34 W_Lapi_Var (fun l=>[.recs (α:=S_api_Var) (S_api_Var.mk [] []) E_api_Var l]):=opens_slice (α:=S_api_Var) (cells:=E_api_Var) (S_api_Var.mk [] []) (by kernel_rfl) (by kernel_rfl) (of_decide_eq_true (by kernel_rfl)) opens_api_Var
def W_api_Port (x:S_api_Port):Prop:=(List.length x.f_Host ≤ maxLen) ∧ (IntKind.min .i64 ≤ x.f_Out ∧ x.f_Out ≤ IntKind.max .i64) ∧ (IntKind.min .i64 ≤ x.f_In ∧ x.f_In ≤ IntKind.max .i64) ∧ (List.length x.f_Proto ≤ maxLen)
theorem opens_api_Port:Opens Try.prog 201 W_api_Port (fun x=>[.str x.f_Host,.val (.int .i64 x.f_Out),.val (.int .i64 x.f_In),.str x.f_Proto]):=by
 intro H enc W fuel cs d ps h
 obtain ⟨hl,hf⟩:=field_of Try.underlying201 h
 have hl:cs.length = 4:=hl.trans (by kernel_rfl)
 obtain ⟨x0,w0,r0⟩:=hf 0 _ rfl opens_string
 have r0:=repAt (a':=0) (b':=1) r0 (by kernel_rfl) (by kernel_rfl)
 obtain ⟨x1,w1,r1⟩:=hf 1 _ rfl opens_i64
 have r1:=repAt (a':=1) (b':=1) r1 (by kernel_rfl) (by kernel_rfl)
 obtain ⟨x2,w2,r2⟩:=hf 2 _ rfl opens_i64
 have r2:=repAt (a':=2) (b':=1) r2 (by kernel_rfl) (by kernel_rfl)
 obtain ⟨x3,w3,r3⟩:=hf 3 _ rfl opens_string
 have r3:=repAt (a':=3) (b':=1) r3 (by kernel_rfl) (by kernel_rfl)
 refine ⟨⟨x0,x1,x2,x3⟩,⟨w0,w1,w2,w3⟩,?_⟩
 refine parts_all (l:=[([.str x0],1),([.val (.int .i64 x1)],1),([.val (.int .i64 x2)],1),([.str x3],1)]) ⟨r0,r1,r2,r3,Nat.le_of_eq hl⟩ rfl
def W_Lapi_Port (l:List (S_api_Port)):Prop:=l.length ≤ maxLen ∧ ∀ x ∈ l,(W_api_Port x)
theorem opens_Lapi_Port:Opens Try.prog 35 W_Lapi_Port (fun l=>[.recs (α:=S_api_Port) (S_api_Port.mk [] 0 0 []) E_api_Port l]):=opens_slice (α:=S_api_Port) (cells:=E_api_Port) (S_api_Port.mk [] 0 0 []) (by kernel_rfl) (by kernel_rfl) (of_decide_eq_true (by kernel_rfl)) opens_api_Port
theorem opens_bool:Opens Try.prog 4 (fun _:Bool=>True) (fun b=>[.val (.bool b)]):=RX.opens_bool (by kernel_rfl)
def W_api_Mount (x:S_api_Mount):Prop:=(List.length x.f_Source ≤ maxLen) ∧ (List.length x.f_Target ≤ maxLen) ∧ True
theorem opens_api_Mount:Opens Try.prog 203 W_api_Mount (fun x=>[.str x.f_Source,.str x.f_Target,.val (.bool x.f_ReadOnly)]):=by
 intro H enc W fuel cs d ps h
 obtain ⟨hl,hf⟩:=field_of Try.underlying203 h
 have hl:cs.length = 3:=hl.trans (by kernel_rfl)
 obtain ⟨x0,w0,r0⟩:=hf 0 _ rfl opens_string
 have r0:=repAt (a':=0) (b':=1) r0 (by kernel_rfl) (by kernel_rfl)
 obtain ⟨x1,w1,r1⟩:=hf 1 _ rfl opens_string
 have r1:=repAt (a':=1) (b':=1) r1 (by kernel_rfl) (by kernel_rfl)
 obtain ⟨x2,w2,r2⟩:=hf 2 _ rfl opens_bool
 have r2:=repAt (a':=2) (b':=1) r2 (by kernel_rfl) (by kernel_rfl)
 refine ⟨⟨x0,x1,x2⟩,⟨w0,w1,w2⟩,?_⟩
 refine parts_all (l:=[([.str x0],1),([.str x1],1),([.val (.bool x2)],1)]) ⟨r0,r1,r2,Nat.le_of_eq hl⟩ rfl
def W_Lapi_Mount (l:List (S_api_Mount)):Prop:=l.length ≤ maxLen ∧ ∀ x ∈ l,(W_api_Mount x)
theorem opens_Lapi_Mount:Opens Try.prog 36 W_Lapi_Mount (fun l=>[.recs (α:=S_api_Mount) (S_api_Mount.mk [] [] false) E_api_Mount l]):=opens_slice (α:=S_api_Mount) (cells:=E_api_Mount) (S_api_Mount.mk [] [] false) (by kernel_rfl) (by kernel_rfl) (of_decide_eq_true (by kernel_rfl)) opens_api_Mount
def W_api_Dep (x:S_api_Dep):Prop:=(List.length x.f_Service ≤ maxLen) ∧ (IntKind.min .i64 ≤ x.f_Cond ∧ x.f_Cond ≤ IntKind.max .i64) ∧ True ∧ True
theorem opens_api_Dep:Opens Try.prog 205 W_api_Dep (fun x=>[.str x.f_Service,.val (.int .i64 x.f_Cond),.val (.bool x.f_Restart),.val (.bool x.f_Required)]):=by
 intro H enc W fuel cs d ps h
 obtain ⟨hl,hf⟩:=field_of Try.underlying205 h
 have hl:cs.length = 4:=hl.trans (by kernel_rfl)
 obtain ⟨x0,w0,r0⟩:=hf 0 _ rfl opens_string
 have r0:=repAt (a':=0) (b':=1) r0 (by kernel_rfl) (by kernel_rfl)
 obtain ⟨x1,w1,r1⟩:=hf 1 _ rfl opens_i64
 have r1:=repAt (a':=1) (b':=1) r1 (by kernel_rfl) (by kernel_rfl)
 obtain ⟨x2,w2,r2⟩:=hf 2 _ rfl opens_bool
 have r2:=repAt (a':=2) (b':=1) r2 (by kernel_rfl) (by kernel_rfl)
 obtain ⟨x3,w3,r3⟩:=hf 3 _ rfl opens_bool
 have r3:=repAt (a':=3) (b':=1) r3 (by kernel_rfl) (by kernel_rfl)
 refine ⟨⟨x0,x1,x2,x3⟩,⟨w0,w1,w2,w3⟩,?_⟩
 refine parts_all (l:=[([.str x0],1),([.val (.int .i64 x1)],1),([.val (.bool x2)],1),([.val (.bool x3)],1)]) ⟨r0,r1,r2,r3,Nat.le_of_eq hl⟩ rfl
def W_Lapi_Dep (l:List (S_api_Dep)):Prop:=l.length ≤ maxLen ∧ ∀ x ∈ l,(W_api_Dep x)
theorem opens_Lapi_Dep:Opens Try.prog 37 W_Lapi_Dep (fun l=>[.recs (α:=S_api_Dep) (S_api_Dep.mk [] 0 false false) E_api_Dep l]):=opens_slice (α:=S_api_Dep) (cells:=E_api_Dep) (S_api_Dep.mk [] 0 false false) (by kernel_rfl) (by kernel_rfl) (of_decide_eq_true (by kernel_rfl)) opens_api_Dep
def W_api_Service (x:S_api_Service):Prop:=(List.length x.f_Name ≤ maxLen) ∧ (List.length x.f_Image ≤ maxLen) ∧ (W_Lstring x.f_Command) ∧ (W_Lapi_Var x.f_Env) ∧ (W_Lapi_Var x.f_Labels) ∧ (W_Lapi_Port x.f_Ports) ∧ (W_Lapi_Mount x.f_Mounts) ∧ (W_Lstring x.f_Nets) ∧ (W_Lapi_Dep x.f_Deps) ∧ (IntKind.min .i64 ≤ x.f_Replicas ∧ x.f_Replicas ≤ IntKind.max .i64) ∧ (W_api_Check x.f_Health) ∧ (IntKind.min .i64 ≤ x.f_Restart ∧ x.f_Restart ≤ IntKind.max .i64) ∧ (IntKind.min .i64 ≤ x.f_Tries ∧ x.f_Tries ≤ IntKind.max .i64) ∧ (IntKind.min .i64 ≤ x.f_Cpus ∧ x.f_Cpus ≤ IntKind.max .i64) ∧ (IntKind.min .i64 ≤ x.f_Mem ∧ x.f_Mem ≤ IntKind.max .i64)
theorem opens_api_Service:Opens Try.prog 41 W_api_Service (fun x=>[.str x.f_Name,.str x.f_Image,.recs (α:=List UInt8) [] E_string x.f_Command,.recs (α:=S_api_Var) (S_api_Var.mk [] []) E_api_Var x.f_Env,.recs (α:=S_api_Var) (S_api_Var.mk [] []) E_api_Var x.f_Labels,.recs (α:=S_api_Port) (S_api_Port.mk [] 0 0 []) E_api_Port x.f_Ports,.recs (α:=S_api_Mount) (S_api_Mount.mk [] [] false) E_api_Mount x.f_Mounts,.recs (α:=List UInt8) [] E_string x.f_Nets,.recs (α:=S_api_Dep) (S_api_Dep.mk [] 0 false false) E_api_Dep x.f_Deps,.val (.int .i64 x.f_Replicas),.str x.f_Health.f_Test,.val (.int .i64 x.f_Health.f_Every),.val (.int .i64 x.f_Health.f_Start),.val (.int .i64 x.f_Health.f_Retries),.val (.int .i64 x.f_Restart),.val (.int .i64 x.f_Tries),.val (.int .i64 x.f_Cpus),.val (.int .i64 x.f_Mem)]):=by
 intro H enc W fuel cs d ps h
 obtain ⟨hl,hf⟩:=field_of Try.underlying41 h
 have hl:cs.length = 18:=hl.trans (by kernel_rfl)
 obtain ⟨x0,w0,r0⟩:=hf 0 _ rfl opens_string
 have r0:=repAt (a':=0) (b':=1) r0 (by kernel_rfl) (by kernel_rfl)
 obtain ⟨x1,w1,r1⟩:=hf 1 _ rfl opens_string
 have r1:=repAt (a':=1) (b':=1) r1 (by kernel_rfl) (by kernel_rfl)
 obtain ⟨x2,w2,r2⟩:=hf 2 _ rfl opens_Lstring
 have r2:=repAt (a':=2) (b':=1) r2 (by kernel_rfl) (by kernel_rfl)
 obtain ⟨x3,w3,r3⟩:=hf 3 _ rfl opens_Lapi_Var
 have r3:=repAt (a':=3) (b':=1) r3 (by kernel_rfl) (by kernel_rfl)
 obtain ⟨x4,w4,r4⟩:=hf 4 _ rfl opens_Lapi_Var
 have r4:=repAt (a':=4) (b':=1) r4 (by kernel_rfl) (by kernel_rfl)
 obtain ⟨x5,w5,r5⟩:=hf 5 _ rfl opens_Lapi_Port
 have r5:=repAt (a':=5) (b':=1) r5 (by kernel_rfl) (by kernel_rfl)
 obtain ⟨x6,w6,r6⟩:=hf 6 _ rfl opens_Lapi_Mount
 have r6:=repAt (a':=6) (b':=1) r6 (by kernel_rfl) (by kernel_rfl)
 obtain ⟨x7,w7,r7⟩:=hf 7 _ rfl opens_Lstring
 have r7:=repAt (a':=7) (b':=1) r7 (by kernel_rfl) (by kernel_rfl)
 obtain ⟨x8,w8,r8⟩:=hf 8 _ rfl opens_Lapi_Dep
 have r8:=repAt (a':=8) (b':=1) r8 (by kernel_rfl) (by kernel_rfl)
 obtain ⟨x9,w9,r9⟩:=hf 9 _ rfl opens_i64
 have r9:=repAt (a':=9) (b':=1) r9 (by kernel_rfl) (by kernel_rfl)
 obtain ⟨x10,w10,r10⟩:=hf 10 _ rfl opens_api_Check
 have r10:=repAt (a':=10) (b':=4) r10 (by kernel_rfl) (by kernel_rfl)
 obtain ⟨x11,w11,r11⟩:=hf 11 _ rfl opens_i64
 have r11:=repAt (a':=14) (b':=1) r11 (by kernel_rfl) (by kernel_rfl)
 obtain ⟨x12,w12,r12⟩:=hf 12 _ rfl opens_i64
 have r12:=repAt (a':=15) (b':=1) r12 (by kernel_rfl) (by kernel_rfl)
 obtain ⟨x13,w13,r13⟩:=hf 13 _ rfl opens_i64
 have r13:=repAt (a':=16) (b':=1) r13 (by kernel_rfl) (by kernel_rfl)
 obtain ⟨x14,w14,r14⟩:=hf 14 _ rfl opens_i64
 have r14:=repAt (a':=17) (b':=1) r14 (by kernel_rfl) (by kernel_rfl)
 refine ⟨⟨x0,x1,x2,x3,x4,x5,x6,x7,x8,x9,x10,x11,x12,x13,x14⟩,⟨w0,w1,w2,w3,w4,w5,w6,w7,w8,w9,w10,w11,w12,w13,w14⟩,?_⟩
 refine parts_all (l:=[([.str x0],1),([.str x1],1),([.recs (α:=List UInt8) [] E_string x2],1),([.recs (α:=S_api_Var) (S_api_Var.mk [] []) E_api_Var x3],1),([.recs (α:=S_api_Var) (S_api_Var.mk [] []) E_api_Var x4],1),([.recs (α:=S_api_Port) (S_api_Port.mk [] 0 0 []) E_api_Port x5],1),([.recs (α:=S_api_Mount) (S_api_Mount.mk [] [] false) E_api_Mount x6],1),([.recs (α:=List UInt8) [] E_string x7],1),([.recs (α:=S_api_Dep) (S_api_Dep.mk [] 0 false false) E_api_Dep x8],1),([.val (.int .i64 x9)],1),([.str x10.f_Test,.val (.int .i64 x10.f_Every),.val (.int .i64 x10.f_Start),.val (.int .i64 x10.f_Retries)],4),([.val (.int .i64 x11)],1),([.val (.int .i64 x12)],1),([.val (.int .i64 x13)],1),([.val (.int .i64 x14)],1)]) ⟨r0,r1,r2,r3,r4,r5,r6,r7,r8,r9,r10,r11,r12,r13,r14,Nat.le_of_eq hl⟩ rfl
def W_Lapi_Service (l:List (S_api_Service)):Prop:=l.length ≤ maxLen ∧ ∀ x ∈ l,(W_api_Service x)
theorem opens_Lapi_Service:Opens Try.prog 26 W_Lapi_Service (fun l=>[.recs (α:=S_api_Service) Z_api_Service E_api_Service l]):=opens_slice (α:=S_api_Service) (cells:=E_api_Service) Z_api_Service (by kernel_rfl) (by kernel_rfl) (of_decide_eq_true (by kernel_rfl)) opens_api_Service
def W_api_Project (x:S_api_Project):Prop:=(List.length x.f_Name ≤ maxLen) ∧ (W_Lapi_Service x.f_Services) ∧ (W_Lstring x.f_Nets) ∧ (W_Lstring x.f_Vols)
theorem opens_api_Project:Opens Try.prog 29 W_api_Project (fun x=>[.str x.f_Name,.recs (α:=S_api_Service) Z_api_Service E_api_Service x.f_Services,.recs (α:=List UInt8) [] E_string x.f_Nets,.recs (α:=List UInt8) [] E_string x.f_Vols]):=by
 intro H enc W fuel cs d ps h
 obtain ⟨hl,hf⟩:=field_of Try.underlying29 h
 have hl:cs.length = 4:=hl.trans (by kernel_rfl)
 obtain ⟨x0,w0,r0⟩:=hf 0 _ rfl opens_string
 have r0:=repAt (a':=0) (b':=1) r0 (by kernel_rfl) (by kernel_rfl)
 obtain ⟨x1,w1,r1⟩:=hf 1 _ rfl opens_Lapi_Service
 have r1:=repAt (a':=1) (b':=1) r1 (by kernel_rfl) (by kernel_rfl)
 obtain ⟨x2,w2,r2⟩:=hf 2 _ rfl opens_Lstring
 have r2:=repAt (a':=2) (b':=1) r2 (by kernel_rfl) (by kernel_rfl)
 obtain ⟨x3,w3,r3⟩:=hf 3 _ rfl opens_Lstring
 have r3:=repAt (a':=3) (b':=1) r3 (by kernel_rfl) (by kernel_rfl)
 refine ⟨⟨x0,x1,x2,x3⟩,⟨w0,w1,w2,w3⟩,?_⟩
 refine parts_all (l:=[([.str x0],1),([.recs (α:=S_api_Service) Z_api_Service E_api_Service x1],1),([.recs (α:=List UInt8) [] E_string x2],1),([.recs (α:=List UInt8) [] E_string x3],1)]) ⟨r0,r1,r2,r3,Nat.le_of_eq hl⟩ rfl
end Go.Proofs.Ytaecmkldkljioaa.M
