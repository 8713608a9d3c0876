import Derived.Test.YtefojkdckfidcaaGreatDoorQMG10d
set_option linter.all false
namespace Go.Proofs.YtefojkdckfidcaaGreatDoor.M
open Go.RowKit Go.Proofs.YtefojkdckfidcaaGreatDoor.RX
set_option maxRecDepth 100000
abbrev ex94 (x0:Int) (x1:List UInt8):=(bif (ex9 x0 x1) then ((ex6 x1 x0) == 32) else false)
theorem ok_ref07_Split_l4 (n:Nat) (v0:List UInt8) (v5:List (S_line_Line)) (v6:Int) (v8:List UInt8) {F0:Fz} {w0:Pt Tryz.prog} {Q:Exit → Act → World → Prop} (k:Nat):∀ (v9:Int) (o:Int),ref07_Split_l4 n v0 v5 v6 v8 k v9 = some o → To 89 F0 w0 [(0,.str v0),(5,.row 1005),(6,vi v6),(8,.str v8),(9,vi o)] [(1005,57,[rc23 v5])] (.exit 4) Q → WL Tryz.prog 89 F0 w0 [(0,.str v0),(5,.row 1005),(6,vi v6),(8,.str v8),(9,vi v9)] [(1005,57,[rc23 v5])] (cI (cI (cA (cB (cB (cB (cB (cB (cB (cI (cB (cI (cI (cA (cB (cB (cB (cB (cF Tryz.f27))))))))))))))))))) Q:=by
 induction k with
 | zero=>intro v9 o h; cases h
 | succ k ih =>
  intro v9 o h hQ
  rw [ref07_Split_l4] at h
  refine WL.round (Wp.seq (Wp.seq ?_))
  obtain ⟨hc3,h⟩:=chk_of h
  refine r0 [0,5,6,8,9,53] [1005] [(0,.str v0),(5,.row 1005),(6,vi v6),(8,.str v8),(9,vi v9),(53,vb (ex94 v9 v8))] [(1005,57,[rc23 v5])] (AllP.cons hc3 AllP.nil) (To.thenN (cn h (fun h=>?_) (fun h=>?_)))
  ·refine Wp.skip (To.thenN (Wp.block (rg [0,5,6,8,9] [1005] [(0,.str v0),(5,.row 1005),(6,vi v6),(8,.str v8),(9,vi (IntKind.wrap .i64 (v9 + 1)))] [(1005,57,[rc23 v5])] (To.blockN (To.again ?_)))))
   exact ih (IntKind.wrap .i64 (v9 + 1)) _ h hQ
  ·refine Wp.exit (To.thenX (To.thenX (kt [0,5,6,8,9] [1005] [(0,.str v0),(5,.row 1005),(6,vi v6),(8,.str v8),(9,vi v9)] [(1005,57,[rc23 v5])] ?_)))
   cases h
   exact hQ
def ref07_Split_l1 (n:Nat):Nat → (List UInt8) → (List (S_line_Line)) → Int → Option (Sum ((List (S_line_Line))) (Int × Int))
 | 0,_,_,_=>none
 | k + 1,v0,v5,v6=>if (decide ((List.length v0:Int) > 0)) = true then ((ref07_Split_l2 n v0 v5 (IntKind.wrap .i64 (v6 + 1)) n 0).bind fun o1 =>
 if (decide (0 ≤ o1 ∧ o1 ≤ (List.length v0:Int))) = true then ((ref07_Split_j3 n v0 v5 (IntKind.wrap .i64 (v6 + 1)) o1 (List.take (Int.toNat o1) v0) (decide (o1 < (List.length v0:Int)))).bind fun o2 =>
 (ref07_Split_l4 n o2 v5 (IntKind.wrap .i64 (v6 + 1)) (List.take (Int.toNat o1) v0) n 0).bind fun o3 =>
 if (decide (0 ≤ o3 ∧ o3 ≤ (List.length (List.take (Int.toNat o1) v0):Int))) = true then ((ref07_Say n (List.drop (Int.toNat o3) (List.take (Int.toNat o1) v0))).bind fun r4 =>
 lett ((bif (!r4.2) then true else (bif (o3 == 0) then (bif (r4.1 == [45,45,45]) then true else (r4.1 == [46,46,46])) else false)):Bool) fun x5 =>
 if x5 = true then (some (.inr ((IntKind.wrap .i64 (v6 + 1)),3)))
 else (if (decide ((List.length r4.1:Int) > 0)) = true then (if (decide ((List.length v5 + List.length ([(S_line_Line.mk (IntKind.wrap .i64 (v6 + 1)) o3 r4.1)]:List (S_line_Line))) * (32 + 1) ≤ limit)) = true then (ref07_Split_l1 n k o2 (v5 ++ ([(S_line_Line.mk (IntKind.wrap .i64 (v6 + 1)) o3 r4.1)]:List (S_line_Line))) (IntKind.wrap .i64 (v6 + 1))) else none)
 else (ref07_Split_l1 n k o2 v5 (IntKind.wrap .i64 (v6 + 1))))) else none) else none)
 else (some (.inl v5))
abbrev rs24 (l:List (S_line_Line)):D:=.recs (α:=S_line_Line) zx4 E_ref07_Line l
theorem ok_ref07_Split_l1 (n:Nat) {F0:Fz} {w0:Pt Tryz.prog} {Q:Exit → Act → World → Prop} (k:Nat):∀ (v0:List UInt8) (v5:List (S_line_Line)) (v6:Int) (o:Sum ((List (S_line_Line))) (Int × Int)),ref07_Split_l1 n k v0 v5 v6 = some o → (Sum.elim (fun s=>To 89 F0 w0 [(5,.row 1005)] [(1005,57,[rc23 s])] (.exit 0) Q) (fun s=>To 89 F0 w0 [(2,.val (.slice none 0 0)),(3,vi s.1),(4,vi s.2)] [] .ret Q)) o → WL Tryz.prog 89 F0 w0 [(0,.str v0),(5,.row 1005),(6,vi v6)] [(1005,57,[rc23 v5])] (cI (cI (cA (cB (cB (cB (cB (cF Tryz.f27)))))))) Q:=by
 induction k with
 | zero=>intro v0 v5 v6 o h; cases h
 | succ k ih =>
  intro v0 v5 v6 o h hQ
  rw [ref07_Split_l1] at h
  refine WL.round (Wp.seq (Wp.seq (rg [0,5,6,18] [1005] [(0,.str v0),(5,.row 1005),(6,vi v6),(18,vb (ex62 v0))] [(1005,57,[rc23 v5])] (To.thenN (cn h (fun h=>?_) (fun h=>?_))))))
  ·refine Wp.skip (To.thenN (Wp.block (Wp.seq (rg [0,5,6] [1005] [(0,.str v0),(5,.row 1005),(ex32 v6)] [(1005,57,[rc23 v5])] (To.thenN (Wp.seq (rg [0,5,6,7] [1005] [(0,.str v0),(5,.row 1005),(ex32 v6),(7,vi 0)] [(1005,57,[rc23 v5])] (To.thenN (Wp.seq (Wp.block ?_))))))))))
   obtain ⟨o1,ho1,h⟩:=bind_of h
   refine kw [0,5,6,7] [1005] [(0,.str v0),(5,.row 1005),(ex32 v6),(7,vi 0)] [(1005,57,[rc23 v5])] (Wp.loopL (ok_ref07_Split_l2 n v0 v5 (IntKind.wrap .i64 (v6 + 1)) n 0 o1 ho1 (To.blockX (To.thenN (Wp.seq ?_)))))
   obtain ⟨hc8,h⟩:=chk_of h
   refine r0 [0,5,6,7,8] [1005] [(0,.str v0),(5,.row 1005),(ex32 v6),(7,vi o1),(8,.str (List.take (Int.toNat o1) v0))] [(1005,57,[rc23 v5])] (AllP.cons hc8 AllP.nil) (To.thenN (Wp.seq (Wp.seq (rg [0,5,6,7,8,39] [1005] [(0,.str v0),(5,.row 1005),(ex32 v6),(7,vi o1),(8,.str (List.take (Int.toNat o1) v0)),(39,vb (decide (o1 < (List.length v0:Int))))] [(1005,57,[rc23 v5])] (To.thenN ?_)))))
   obtain ⟨o2,ho2,h⟩:=bind_of h
   refine kw [0,5,6,7,8,39] [1005] [(0,.str v0),(5,.row 1005),(ex32 v6),(7,vi o1),(8,.str (List.take (Int.toNat o1) v0)),(39,vb (decide (o1 < (List.length v0:Int))))] [(1005,57,[rc23 v5])] (ok_ref07_Split_j3 n v0 v5 (IntKind.wrap .i64 (v6 + 1)) o1 (List.take (Int.toNat o1) v0) (decide (o1 < (List.length v0:Int))) o2 ho2 (To.thenN (Wp.seq (rg [0,5,6,8,9] [1005] [(0,.str o2),(5,.row 1005),(ex32 v6),(8,.str (List.take (Int.toNat o1) v0)),(9,vi 0)] [(1005,57,[rc23 v5])] (To.thenN (Wp.seq (Wp.block ?_)))))))
   obtain ⟨o3,ho3,h⟩:=bind_of h
   refine kw [0,5,6,8,9] [1005] [(0,.str o2),(5,.row 1005),(ex32 v6),(8,.str (List.take (Int.toNat o1) v0)),(9,vi 0)] [(1005,57,[rc23 v5])] (Wp.loopL (ok_ref07_Split_l4 n o2 v5 (IntKind.wrap .i64 (v6 + 1)) (List.take (Int.toNat o1) v0) n 0 o3 ho3 (To.blockX (To.thenN (Wp.seq ?_)))))
   obtain ⟨hc7,h⟩:=chk_of h
   obtain ⟨r4,hr4,h⟩:=bind_of h
   refine rr [] [(3,.tup [.str r4.1,vb r4.2])] [] [0,5,6,9,10,11] [1005] [(0,.str o2),(5,.row 1005),(ex32 v6),(9,vi o3),(10,.str r4.1),(11,vb r4.2)] [(1005,57,[rc23 v5])] [_,_] (AllP.cons hc7 (AllP.cons (c1 (ok_ref07_Say n (List.drop (Int.toNat o3) (List.take (Int.toNat o1) v0)) _ hr4)) AllP.nil)) (To.thenN (Wp.seq (Wp.seq ?_)))
   obtain ⟨x5,hx5,h⟩:=lett_of h
   refine rg [0,5,6,9,10,76] [1005] [(0,.str o2),(5,.row 1005),(ex32 v6),(9,vi o3),(10,.str r4.1),(76,vb (bif (!r4.2) then true else (bif (o3 == 0) then (bif (r4.1 == [45,45,45]) then true else (r4.1 == [46,46,46])) else false)))] [(1005,57,[rc23 v5])] (To.eq (K':=[(0,.str o2),(5,.row 1005),(ex32 v6),(9,vi o3),(10,.str r4.1),(76,vb x5)]) (L':=[(1005,57,[rc23 v5])]) (by cases hx5; rfl) (by cases hx5; rfl) (To.thenN (cn h (fun h=>?_) (fun h=>?_))))
   ·refine Wp.seq (rg [2,3,4] [] [(2,.val (.slice none 0 0)),(3,vi (IntKind.wrap .i64 (v6 + 1))),(4,vi 3)] [] (To.thenN (Wp.ret (To.thenR (To.blockR (To.thenR ?_))))))
    cases h
    exact hQ
   ·refine Wp.skip (To.thenN (Wp.seq (rg [0,5,6,9,10,80] [1005] [(0,.str o2),(5,.row 1005),(ex32 v6),(9,vi o3),(10,.str r4.1),(80,vb (decide ((List.length r4.1:Int) > 0)))] [(1005,57,[rc23 v5])] (To.thenN (cn h (fun h=>?_) (fun h=>?_))))))
    ·obtain ⟨hc6,h⟩:=chk_of h
     refine rr [] [(5,rs24 [(S_line_Line.mk (IntKind.wrap .i64 (v6 + 1)) o3 r4.1)]),(6,rs24 (v5 ++ ([(S_line_Line.mk (IntKind.wrap .i64 (v6 + 1)) o3 r4.1)]:List (S_line_Line))))] [] [0,5,6] [87] [(0,.str o2),(5,.row 87),(ex32 v6)] [(87,57,[rc23 (v5 ++ ([(S_line_Line.mk (IntKind.wrap .i64 (v6 + 1)) o3 r4.1)]:List (S_line_Line)))])] [(MkOb 3 [vi (IntKind.wrap .i64 (v6 + 1)),vi o3,.str r4.1] 1 (rs24 [(S_line_Line.mk (IntKind.wrap .i64 (v6 + 1)) o3 r4.1)]) ∧ GoodR (rs24 [(S_line_Line.mk (IntKind.wrap .i64 (v6 + 1)) o3 r4.1)])),_,(AppOb zx4 E_ref07_Line v5 (List.flatMap E_ref07_Line ([(S_line_Line.mk (IntKind.wrap .i64 (v6 + 1)) o3 r4.1)]:List (S_line_Line))) (List.length ([(S_line_Line.mk (IntKind.wrap .i64 (v6 + 1)) o3 r4.1)]:List (S_line_Line))) (rs24 (v5 ++ ([(S_line_Line.mk (IntKind.wrap .i64 (v6 + 1)) o3 r4.1)]:List (S_line_Line)))) ∧ GoodR (rs24 (v5 ++ ([(S_line_Line.mk (IntKind.wrap .i64 (v6 + 1)) o3 r4.1)]:List (S_line_Line)))))] (AllP.cons (mkOb (by kernel_rfl) rfl (by kernel_rfl) (good_E_ref07_Line _)) (AllP.cons hc6 (AllP.cons (appOb rfl rfl (good_E_ref07_Line _)) AllP.nil))) (To.blockN (nt [0,5,6] [87] [(87,1005)] [0,5,6] [1005] [(0,.str o2),(5,.row 1005),(ex32 v6)] [(1005,57,[rc23 (v5 ++ ([(S_line_Line.mk (IntKind.wrap .i64 (v6 + 1)) o3 r4.1)]:List (S_line_Line)))])] (To.again ?_)))
     exact ih o2 (v5 ++ ([(S_line_Line.mk (IntKind.wrap .i64 (v6 + 1)) o3 r4.1)]:List (S_line_Line))) (IntKind.wrap .i64 (v6 + 1)) _ h hQ
    ·refine Wp.skip (To.blockN (kt [0,5,6] [1005] [(0,.str o2),(5,.row 1005),(ex32 v6)] [(1005,57,[rc23 v5])] (To.again ?_)))
     exact ih o2 v5 (IntKind.wrap .i64 (v6 + 1)) _ h hQ
  ·refine Wp.exit (To.thenX (To.thenX (kt [5] [1005] [(5,.row 1005)] [(1005,57,[rc23 v5])] ?_)))
   cases h
   exact hQ
def ref07_Split (n:Nat) (a0:List UInt8):Option ((List (S_line_Line)) × Int × Int) :=
 if (decide ((List.length a0:Int) > 8192)) = true then (some ([],0,9))
 else ((ref07_Split_l1 n n a0 ([]:List (S_line_Line)) 0).bind fun o1 =>
 (Sum.elim (fun o1=>some (o1,0,0)) (fun o1=>some ([],o1.1,o1.2))) o1)
abbrev rc25 (l:List (S_line_Line)):D:=.rowc true (α:=S_line_Line) zx4 E_ref07_Line l
theorem ok_ref07_Split (n:Nat) (a0:List UInt8) (r:(List (S_line_Line)) × Int × Int) (h:ref07_Split n a0 = some r):CallsX Tryz.prog 27 [.str a0] (.tup [rs24 r.1,vi r.2.1,vi r.2.2]):=by
 unfold ref07_Split at h
 refine xo Tryz.f27 rfl fun F0 w0 _=>?_
 refine Wp.seq (rg [0] [] [(0,.str a0)] [] (To.thenN (Wp.seq (Wp.seq (rg [0,14] [] [(0,.str a0),(14,vb (decide ((List.length a0:Int) > 8192)))] [] (To.thenN (cn h (fun h=>?_) (fun h=>?_))))))))
 ·refine Wp.seq (rg [2,3,4] [] [(2,.val (.slice none 0 0)),(3,vi 0),(4,vi 9)] [] (To.thenN (Wp.ret (To.thenR (To.weak (K':=[(2,rs24 []),(3,vi 0),(4,vi 9)]) (L':=[]) (.cons (.zero _ _) (.cons (.refl _) (.cons (.refl _) .nil))) .nil ?_)))))
  cases h
  exact To.done hΓ (by kernel_rfl)
 ·refine Wp.skip (To.thenN (Wp.seq (rr [] [(0,rs24 [])] [] [0,5] [15] [(0,.str a0),(5,.row 15)] [(15,57,[rc23 []])] [(MkOb 3 [] 0 (rs24 []) ∧ GoodR (rs24 []))] (AllP.cons (mkOb (by kernel_rfl) rfl (by kernel_rfl) (good_E_ref07_Line _)) AllP.nil) (To.thenN (Wp.seq (rg [0,5,6] [15] [(0,.str a0),(5,.row 15),(6,vi 0)] [(15,57,[rc23 []])] (To.thenN (Wp.seq (Wp.block ?_)))))))))
  obtain ⟨o1,ho1,h⟩:=bind_of h
  refine nw [0,5,6] [15] [(15,1005)] [0,5,6] [1005] [(0,.str a0),(5,.row 1005),(6,vi 0)] [(1005,57,[rc23 []])] (Wp.loopL (ok_ref07_Split_l1 n n a0 ([]:List (S_line_Line)) 0 o1 ho1 ?_))
  rcases o1 with o1 | o1
  ·replace h:=sum_l h
   refine To.blockX (To.thenN (Wp.seq (rg [2,3,4] [1005] [(2,.row 1005),(3,vi 0),(4,vi 0)] [(1005,57,[rc23 o1])] (To.thenN (Wp.ret (To.pre (St.settle (ks:=[1005]) (kk:=[2,3,4]) (kl:=[1005]) (K':=[(2,.row 1005),(3,vi 0),(4,vi 0)]) (L':=[(1005,57,[rc25 o1])]) (by kernel_rfl)) (To.pre (St.sealK [2] (K':=[(2,rs24 o1),(3,vi 0),(4,vi 0)]) (by kernel_rfl)) ?_)))))))
   cases h
   exact To.done hΓ (by kernel_rfl)
  ·replace h:=sum_r h
   refine To.blockR (To.thenR (kt [2,3,4] [] [(2,.val (.slice none 0 0)),(3,vi o1.1),(4,vi o1.2)] [] (To.weak (K':=[(2,rs24 []),(3,vi o1.1),(4,vi o1.2)]) (L':=[]) (.cons (.zero _ _) (.cons (.refl _) (.cons (.refl _) .nil))) .nil ?_)))
   cases h
   exact To.done hΓ (by kernel_rfl)
structure S_ref10_Found where
 f_N:S_api_Node
 f_Next:Int
 f_No:Int
 f_E:Int
def ref10_Row (n:Nat) (a0:List UInt8):Option (Bool) :=
 if ((!((decide ((List.length a0:Int) > 0)) == true) || decide (0 ≤ (0:Int) ∧ (0:Int) < (List.length a0:Int)))) = true then (if ((!((((List.length a0:Int) == 1) == false) && ((bif (decide ((List.length a0:Int) > 0)) then ((((a0)[Int.toNat 0]?.getD 0).toNat:Int) == 45) else false) == true)) || decide (0 ≤ (1:Int) ∧ (1:Int) < (List.length a0:Int)))) = true then (lett ((bif (bif (decide ((List.length a0:Int) > 0)) then ((((a0)[Int.toNat 0]?.getD 0).toNat:Int) == 45) else false) then (bif ((List.length a0:Int) == 1) then true else ((((a0)[Int.toNat 1]?.getD 0).toNat:Int) == 32)) else false):Bool) fun x1 =>
 some x1) else none) else none
theorem ok_ref10_Row (n:Nat) (a0:List UInt8) (r:Bool) (h:ref10_Row n a0 = some r):CallsX Tryz.prog 15 [.str a0] (vb r):=by
 unfold ref10_Row at h
 refine xo Tryz.f15 rfl fun F0 w0 _=>?_
 refine Wp.seq (rg [0] [] [(0,.str a0)] [] (To.thenN (Wp.seq ?_)))
 obtain ⟨hc2,h⟩:=chk_of h
 obtain ⟨hc3,h⟩:=chk_of h
 obtain ⟨x1,hx1,h⟩:=lett_of h
 refine r0 [2] [] [(2,vb (bif (bif (ex62 a0) then ((ex23 a0) == 45) else false) then (bif ((List.length a0:Int) == 1) then true else ((ex4 a0) == 32)) else false))] [] (AllP.cons hc2 (AllP.cons hc3 AllP.nil)) (To.eq (K':=[(2,vb x1)]) (L':=[]) (by cases hx1; rfl) (by cases hx1; rfl) (To.thenN (Wp.ret ?_)))
 cases h
 exact To.done hΓ (by kernel_rfl)
def ref10_wrong (a0:Int) (a1:Int):S_ref10_Found :=
 (S_ref10_Found.mk (S_api_Node.mk 0 [] [] []) 0 a0 a1)
abbrev qc26 (x:S_ref10_Found):List D:=[vi x.f_N.f_Kind,.str x.f_N.f_Text,ls x.f_N.f_Keys,tn8 x.f_N.f_Kids,vi x.f_Next,vi x.f_No,vi x.f_E]
theorem ok_ref10_wrong (a0:Int) (a1:Int) (r:S_ref10_Found) (h:ref10_wrong a0 a1 = r):CallsX Tryz.prog 61 [vi a0,vi a1] (.agg (qc26 r)):=by
 unfold ref10_wrong at h
 refine xo Tryz.f61 rfl fun F0 w0 _=>?_
 refine Wp.seq (rg [0,1,4] [4] [(0,vi a0),(1,vi a1),(4,.own 4 0)] [(4,55,[vi 0,.str [],.val (.slice none 0 0),.val (.slice none 0 0),vi 0,vi 0,vi 0])] (To.thenN (Wp.seq (rg [4] [4] [(4,.own 4 0)] [(4,55,[vi 0,.str [],.val (.slice none 0 0),.val (.slice none 0 0),vi 0,vi a0,vi a1])] (To.thenN (Wp.ret (To.weak (K':=[(4,.own 4 0)]) (L':=[(4,55,[vi 0,.str [],ls [],tn8 [],vi 0,vi a0,vi a1])]) (.cons (.refl _) .nil) (.cons (.cons (.refl _) (.cons (.refl _) (.cons (.zero _ _) (.cons (.zeroT _ _ _) (.cons (.refl _) (.cons (.refl _) (.cons (.refl _) .nil))))))) .nil) ?_)))))))
 cases h
 exact To.done hΓ (by kernel_rfl)
def E_ref10_Found:S_ref10_Found → List D:=fun x=>[.val (.int .i64 x.f_N.f_Kind),.str x.f_N.f_Text,.recs (α:=List UInt8) [] E_string x.f_N.f_Keys,.tree (α:=S_api_Node) (S_api_Node.mk 0 [] [] []) pre_S_api_Node kids_S_api_Node x.f_N.f_Kids,.val (.int .i64 x.f_Next),.val (.int .i64 x.f_No),.val (.int .i64 x.f_E)]
def ref07_Cut_l1 (n:Nat) (b2:S_line_Line) (b4:S_line_Line):Nat → Int → Option (Int)
 | 0,_=>none
 | k + 1,v1=>if ((!((decide (v1 < (List.length b2.f_Text:Int))) == true) || decide (0 ≤ v1 ∧ v1 < (List.length b2.f_Text:Int)))) = true then (lett ((bif (decide (v1 < (List.length b2.f_Text:Int))) then ((((b2.f_Text)[Int.toNat v1]?.getD 0).toNat:Int) == 32) else false):Bool) fun x1 =>
 if x1 = true then (ref07_Cut_l1 n b2 b4 k (IntKind.wrap .i64 (v1 + 1)))
 else some v1) else none
theorem ok_ref07_Cut_l1 (n:Nat) (b2:S_line_Line) (b4:S_line_Line) {F0:Fz} {w0:Pt Tryz.prog} {Q:Exit → Act → World → Prop} (k:Nat):∀ (v1:Int) (o:Int),ref07_Cut_l1 n b2 b4 k v1 = some o → To 40 F0 w0 [(1,vi o),(2,.own 2 0),(4,.own 4 0)] [(2,57,qc3 b2),(4,57,qc3 b4)] (.exit 0) Q → WL Tryz.prog 40 F0 w0 [(1,vi v1),(2,.own 2 0),(4,.own 4 0)] [(2,57,qc3 b2),(4,57,qc3 b4)] (cI (cI (cA (cB (cB (cF Tryz.f94)))))) Q:=by
 induction k with
 | zero=>intro v1 o h; cases h
 | succ k ih =>
  intro v1 o h hQ
  rw [ref07_Cut_l1] at h
  refine WL.round (Wp.seq (Wp.seq ?_))
  obtain ⟨hc2,h⟩:=chk_of h
  obtain ⟨x1,hx1,h⟩:=lett_of h
  refine r0 [1,2,4,26] [2,4] [(1,vi v1),(2,.own 2 0),(4,.own 4 0),(26,vb (bif (decide (v1 < (List.length b2.f_Text:Int))) then ((((b2.f_Text)[Int.toNat v1]?.getD 0).toNat:Int) == 32) else false))] [(2,57,qc3 b2),(4,57,qc3 b4)] (AllP.cons hc2 AllP.nil) (To.eq (K':=[(1,vi v1),(2,.own 2 0),(4,.own 4 0),(26,vb x1)]) (L':=[(2,57,qc3 b2),(4,57,qc3 b4)]) (by cases hx1; rfl) (by cases hx1; rfl) (To.thenN (cn h (fun h=>?_) (fun h=>?_))))
  ·refine Wp.skip (To.thenN (Wp.block (rg [1,2,4] [2,4] [(ex11 v1),(2,.own 2 0),(4,.own 4 0)] [(2,57,qc3 b2),(4,57,qc3 b4)] (To.blockN (To.again ?_)))))
   exact ih (IntKind.wrap .i64 (v1 + 1)) _ h hQ
  ·refine Wp.exit (To.thenX (To.thenX (kt [1,2,4] [2,4] [(1,vi v1),(2,.own 2 0),(4,.own 4 0)] [(2,57,qc3 b2),(4,57,qc3 b4)] ?_)))
   cases h
   exact hQ
def ref07_Cut (n:Nat) (a0:S_line_Line) (a1:Int):Option (S_line_Line) :=
 if (bif (decide (a1 < 0)) then true else (decide (a1 > (List.length a0.f_Text:Int)))) = true then some a0
 else ((ref07_Cut_l1 n a0 (S_line_Line.mk 0 0 []) n a1).bind fun o1 =>
 if (decide (0 ≤ o1 ∧ o1 ≤ (List.length a0.f_Text:Int))) = true then (some (S_line_Line.mk a0.f_No (IntKind.wrap .i64 (a0.f_Indent + o1)) (List.drop (Int.toNat o1) a0.f_Text))) else none)
theorem ok_ref07_Cut (n:Nat) (a0:S_line_Line) (a1:Int) (r:S_line_Line) (h:ref07_Cut n a0 a1 = some r):CallsX Tryz.prog 94 [.agg (qc3 a0),vi a1] (.agg (qc3 r)):=by
 unfold ref07_Cut at h
 refine xo Tryz.f94 rfl fun F0 w0 _=>?_
 refine Wp.seq (rg [1,2,4] [2,4] [(1,vi a1),(2,.own 2 0),(4,.own 4 0)] [(2,57,qc3 a0),(4,57,[vi 0,vi 0,.str []])] (To.thenN (Wp.seq (Wp.seq (rg [1,2,4,13] [2,4] [(1,vi a1),(2,.own 2 0),(4,.own 4 0),(13,vb (ex30 a1 a0))] [(2,57,qc3 a0),(4,57,[vi 0,vi 0,.str []])] (To.thenN (cn h (fun h=>?_) (fun h=>?_))))))))
 ·refine Wp.seq (rg [4] [4] [(4,.own 4 0)] [(4,57,qc3 a0)] (To.thenN (Wp.ret (To.thenR ?_))))
  cases h
  exact To.done hΓ (by kernel_rfl)
 ·refine Wp.skip (To.thenN (Wp.seq (Wp.block ?_)))
  obtain ⟨o1,ho1,h⟩:=bind_of h
  refine kw [1,2,4] [2,4] [(1,vi a1),(2,.own 2 0),(4,.own 4 0)] [(2,57,qc3 a0),(4,57,[vi 0,vi 0,.str []])] (Wp.loopL (ok_ref07_Cut_l1 n a0 zx4 n a1 o1 ho1 (To.blockX (To.thenN (Wp.seq ?_)))))
  obtain ⟨hc2,h⟩:=chk_of h
  refine Wp.regionD hm hΓ [] [4] [4] (K':=[(4,.own 4 0)]) (L':=[(4,57,[vi a0.f_No,vi (IntKind.wrap .i64 (a0.f_Indent + o1)),.str (List.drop (Int.toNat o1) a0.f_Text)])]) (ob:=[(decide (0 ≤ o1 ∧ o1 ≤ (List.length a0.f_Text:Int))) = true]) (by kernel_rfl) (AllP.cons hc2 AllP.nil) (To.thenN (Wp.ret ?_))
  cases h
  exact To.done hΓ (by kernel_rfl)
def ref10_with_j2 (n:Nat) (v0:List (S_line_Line)) (v1:Int) (v7:List (S_line_Line)) (v8:Int) (b5:S_line_Line):Option ((List (S_line_Line))) :=
 if (v8 == v1) = true then (if (decide ((List.length v7 + List.length ([b5]:List (S_line_Line))) * (32 + 1) ≤ limit)) = true then (some (v7 ++ ([b5]:List (S_line_Line)))) else none)
 else (if (decide (0 ≤ v8 ∧ v8 < (List.length v0:Int))) = true then (if (decide ((List.length v7 + List.length ([((v0)[Int.toNat v8]?.getD (S_line_Line.mk 0 0 []))]:List (S_line_Line))) * (32 + 1) ≤ limit)) = true then (some (v7 ++ ([((v0)[Int.toNat v8]?.getD (S_line_Line.mk 0 0 []))]:List (S_line_Line)))) else none) else none)
abbrev ex63 (x0:List (S_line_Line)) (x1:Int):=((x0)[Int.toNat x1]?.getD zx4)
abbrev ex64 (x0:Int) (x1:List (S_line_Line)):=(0 ≤ x0 ∧ x0 < (List.length x1:Int))
abbrev ex95 (x0:List (S_line_Line)) (x1:Int):=([(ex63 x0 x1)]:List (S_line_Line))
theorem ok_ref10_with_j2 (n:Nat) (v0:List (S_line_Line)) (v1:Int) (v7:List (S_line_Line)) (v8:Int) (b5:S_line_Line) (o:(List (S_line_Line))) (h:ref10_with_j2 n v0 v1 v7 v8 b5 = some o) {F0:Fz} {w0:Pt Tryz.prog} {Q:Exit → Act → World → Prop} (hQ:To 31 F0 w0 [(0,rs24 v0),(1,vi v1),(5,.own 5 0),(7,.row 1007),(8,vi v8)] [(5,57,qc3 b5),(1007,57,[rc23 o])] .normal Q):Wp Tryz.prog 31 F0 w0 [(0,rs24 v0),(1,vi v1),(5,.own 5 0),(7,.row 1007),(8,vi v8)] [(5,57,qc3 b5),(1007,57,[rc23 v7])] (cA (cB (cI (cI (cB (cA (cB (cB (cF Tryz.f93))))))))) Q:=by
 unfold ref10_with_j2 at h
 refine Wp.block (Wp.seq (rg [0,1,5,7,8,18] [5,1007] [(0,rs24 v0),(1,vi v1),(5,.own 5 0),(7,.row 1007),(8,vi v8),(18,vb (v8 == v1))] [(5,57,qc3 b5),(1007,57,[rc23 v7])] (To.thenN (cn h (fun h=>?_) (fun h=>?_)))))
 ·obtain ⟨hc1,h⟩:=chk_of h
  refine rr [] [(2,rs24 [b5]),(3,rs24 (v7 ++ ([b5]:List (S_line_Line))))] [] [0,1,5,7,8] [5,22] [(0,rs24 v0),(1,vi v1),(5,.own 5 0),(7,.row 22),(8,vi v8)] [(5,57,qc3 b5),(22,57,[rc23 (v7 ++ ([b5]:List (S_line_Line)))])] [(MkOb 3 (qc3 b5) 1 (rs24 [b5]) ∧ GoodR (rs24 [b5])),_,(AppOb zx4 E_ref07_Line v7 (List.flatMap E_ref07_Line ([b5]:List (S_line_Line))) (List.length ([b5]:List (S_line_Line))) (rs24 (v7 ++ ([b5]:List (S_line_Line)))) ∧ GoodR (rs24 (v7 ++ ([b5]:List (S_line_Line)))))] (AllP.cons (mkOb (by kernel_rfl) rfl (by kernel_rfl) (good_E_ref07_Line _)) (AllP.cons hc1 (AllP.cons (appOb rfl rfl (good_E_ref07_Line _)) AllP.nil))) (To.blockN (nt [0,1,5,7,8] [5,22] [(22,1007)] [0,1,5,7,8] [5,1007] [(0,rs24 v0),(1,vi v1),(5,.own 5 0),(7,.row 1007),(8,vi v8)] [(5,57,qc3 b5),(1007,57,[rc23 (v7 ++ ([b5]:List (S_line_Line)))])] ?_))
  cases h
  exact hQ
 ·obtain ⟨hc2,h⟩:=chk_of h
  obtain ⟨hc3,h⟩:=chk_of h
  refine rr [] [(5,rs24 ([(ex63 v0 v8)])),(6,rs24 (v7 ++ (ex95 v0 v8)))] [] [0,1,5,7,8] [5,29] [(0,rs24 v0),(1,vi v1),(5,.own 5 0),(7,.row 29),(8,vi v8)] [(5,57,qc3 b5),(29,57,[rc23 (v7 ++ (ex95 v0 v8))])] [_,(MkOb 3 [vi ((ex63 v0 v8).f_No),vi ((ex63 v0 v8).f_Indent),.str ((ex63 v0 v8).f_Text)] 1 (rs24 ([(ex63 v0 v8)])) ∧ GoodR (rs24 ([(ex63 v0 v8)]))),_,(AppOb zx4 E_ref07_Line v7 (List.flatMap E_ref07_Line (ex95 v0 v8)) (List.length (ex95 v0 v8)) (rs24 (v7 ++ (ex95 v0 v8))) ∧ GoodR (rs24 (v7 ++ (ex95 v0 v8))))] (AllP.cons hc2 (AllP.cons (mkOb (by kernel_rfl) rfl (by kernel_rfl) (good_E_ref07_Line _)) (AllP.cons hc3 (AllP.cons (appOb rfl rfl (good_E_ref07_Line _)) AllP.nil)))) (To.blockN (nt [0,1,5,7,8] [5,29] [(29,1007)] [0,1,5,7,8] [5,1007] [(0,rs24 v0),(1,vi v1),(5,.own 5 0),(7,.row 1007),(8,vi v8)] [(5,57,qc3 b5),(1007,57,[rc23 (v7 ++ (ex95 v0 v8))])] ?_))
  cases h
  exact hQ
def ref10_with_l1 (n:Nat) (v0:List (S_line_Line)) (v1:Int) (b5:S_line_Line):Nat → (List (S_line_Line)) → Int → Option ((List (S_line_Line)))
 | 0,_,_=>none
 | k + 1,v7,v8=>if (decide (v8 < (List.length v0:Int))) = true then ((ref10_with_j2 n v0 v1 v7 v8 b5).bind fun o1 =>
 ref10_with_l1 n v0 v1 b5 k o1 (IntKind.wrap .i64 (v8 + 1)))
 else some v7
abbrev ex65 (x0:Int) (x1:List (S_line_Line)):=(decide (x0 < (List.length x1:Int)))
theorem ok_ref10_with_l1 (n:Nat) (v0:List (S_line_Line)) (v1:Int) (b5:S_line_Line) {F0:Fz} {w0:Pt Tryz.prog} {Q:Exit → Act → World → Prop} (k:Nat):∀ (v7:List (S_line_Line)) (v8:Int) (o:(List (S_line_Line))),ref10_with_l1 n v0 v1 b5 k v7 v8 = some o → To 31 F0 w0 [(7,.row 1007)] [(1007,57,[rc23 o])] (.exit 0) Q → WL Tryz.prog 31 F0 w0 [(0,rs24 v0),(1,vi v1),(5,.own 5 0),(7,.row 1007),(8,vi v8)] [(5,57,qc3 b5),(1007,57,[rc23 v7])] (cI (cI (cB (cA (cB (cB (cF Tryz.f93))))))) Q:=by
 induction k with
 | zero=>intro v7 v8 o h; cases h
 | succ k ih =>
  intro v7 v8 o h hQ
  rw [ref10_with_l1] at h
  refine WL.round (Wp.seq (Wp.seq (rg [0,1,5,7,8,13] [5,1007] [(0,rs24 v0),(1,vi v1),(5,.own 5 0),(7,.row 1007),(8,vi v8),(13,vb (ex65 v8 v0))] [(5,57,qc3 b5),(1007,57,[rc23 v7])] (To.thenN (cn h (fun h=>?_) (fun h=>?_))))))
  ·refine Wp.skip (To.thenN (Wp.seq ?_))
   obtain ⟨o1,ho1,h⟩:=bind_of h
   refine kw [0,1,5,7,8] [5,1007] [(0,rs24 v0),(1,vi v1),(5,.own 5 0),(7,.row 1007),(8,vi v8)] [(5,57,qc3 b5),(1007,57,[rc23 v7])] (ok_ref10_with_j2 n v0 v1 v7 v8 b5 o1 ho1 (To.thenN (rg [0,1,5,7,8] [5,1007] [(0,rs24 v0),(1,vi v1),(5,.own 5 0),(7,.row 1007),(ex44 v8)] [(5,57,qc3 b5),(1007,57,[rc23 o1])] (kt [0,1,5,7,8] [5,1007] [(0,rs24 v0),(1,vi v1),(5,.own 5 0),(7,.row 1007),(ex44 v8)] [(5,57,qc3 b5),(1007,57,[rc23 o1])] (To.again ?_)))))
   exact ih o1 (IntKind.wrap .i64 (v8 + 1)) _ h hQ
  ·refine Wp.exit (To.thenX (To.thenX (kt [7] [1007] [(7,.row 1007)] [(1007,57,[rc23 v7])] ?_)))
   cases h
   exact hQ
def ref10_with (n:Nat) (a0:List (S_line_Line)) (a1:Int) (a2:S_line_Line):Option ((List (S_line_Line))) :=
 (ref10_with_l1 n a0 a1 a2 n ([]:List (S_line_Line)) 0).bind fun o1 =>
 some o1
theorem ok_ref10_with (n:Nat) (a0:List (S_line_Line)) (a1:Int) (a2:S_line_Line) (r:(List (S_line_Line))) (h:ref10_with n a0 a1 a2 = some r):CallsX Tryz.prog 93 [rs24 a0,vi a1,.agg (qc3 a2)] (rs24 r):=by
 unfold ref10_with at h
 refine xo Tryz.f93 rfl fun F0 w0 _=>?_
 refine Wp.seq (rg [0,1,5] [5] [(0,rs24 a0),(1,vi a1),(5,.own 5 0)] [(5,57,qc3 a2)] (To.thenN (Wp.seq (rr [] [(0,rs24 [])] [] [0,1,5,7] [5,9] [(0,rs24 a0),(1,vi a1),(5,.own 5 0),(7,.row 9)] [(5,57,qc3 a2),(9,57,[rc23 []])] [(MkOb 3 [] 0 (rs24 []) ∧ GoodR (rs24 []))] (AllP.cons (mkOb (by kernel_rfl) rfl (by kernel_rfl) (good_E_ref07_Line _)) AllP.nil) (To.thenN (Wp.seq (Wp.seq (rg [0,1,5,7,8] [5,9] [(0,rs24 a0),(1,vi a1),(5,.own 5 0),(7,.row 9),(8,vi 0)] [(5,57,qc3 a2),(9,57,[rc23 []])] (To.thenN (Wp.block ?_))))))))))
 obtain ⟨o1,ho1,h⟩:=bind_of h
 refine nw [0,1,5,7,8] [5,9] [(9,1007)] [0,1,5,7,8] [5,1007] [(0,rs24 a0),(1,vi a1),(5,.own 5 0),(7,.row 1007),(8,vi 0)] [(5,57,qc3 a2),(1007,57,[rc23 []])] (Wp.loopL (ok_ref10_with_l1 n a0 a1 a2 n ([]:List (S_line_Line)) 0 o1 ho1 (To.blockX (To.thenN (Wp.seq (rg [6] [1007] [(6,.row 1007)] [(1007,57,[rc23 o1])] (To.thenN (Wp.ret (To.pre (St.settle (ks:=[1007]) (kk:=[6]) (kl:=[1007]) (K':=[(6,.row 1007)]) (L':=[(1007,57,[rc25 o1])]) (by kernel_rfl)) (To.pre (St.sealK [6] (K':=[(6,rs24 o1)]) (by kernel_rfl)) ?_))))))))))
 cases h
 exact To.done hΓ (by kernel_rfl)
def ref10_deeper (n:Nat) (a0:List (S_line_Line)) (a1:Int) (a2:Int):Option (Bool) :=
 if ((!((decide (a1 < (List.length a0:Int))) == true) || decide (0 ≤ a1 ∧ a1 < (List.length a0:Int)))) = true then (lett ((bif (decide (a1 < (List.length a0:Int))) then (decide ((((a0)[Int.toNat a1]?.getD (S_line_Line.mk 0 0 [])).f_Indent) > a2)) else false):Bool) fun x1 =>
 some x1) else none
theorem ok_ref10_deeper (n:Nat) (a0:List (S_line_Line)) (a1:Int) (a2:Int) (r:Bool) (h:ref10_deeper n a0 a1 a2 = some r):CallsX Tryz.prog 95 [rs24 a0,vi a1,vi a2] (vb r):=by
 unfold ref10_deeper at h
 refine xo Tryz.f95 rfl fun F0 w0 _=>?_
 refine Wp.seq (rg [0,1,2] [] [(0,rs24 a0),(1,vi a1),(2,vi a2)] [] (To.thenN (Wp.seq ?_)))
 obtain ⟨hc2,h⟩:=chk_of h
 obtain ⟨x1,hx1,h⟩:=lett_of h
 refine r0 [6] [] [(6,vb (bif (ex65 a1 a0) then (decide (((ex63 a0 a1).f_Indent) > a2)) else false))] [] (AllP.cons hc2 AllP.nil) (To.eq (K':=[(6,vb x1)]) (L':=[]) (by cases hx1; rfl) (by cases hx1; rfl) (To.thenN (Wp.ret ?_)))
 cases h
 exact To.done hΓ (by kernel_rfl)
def ref10_row_j2 (R_ref10_Block:(List (S_line_Line)) → Int → Option (S_ref10_Found)) (n:Nat) (v0:List (S_line_Line)) (v1:Int) (v5:Int) (v49:Bool) (b4:S_ref10_Found) (b6:S_api_Node) (b7:S_line_Line) (b8:S_ref10_Found):Option (S_ref10_Found) :=
 if v49 = true then ((ref07_Cut n b7 1).bind fun r4 =>
 (ref10_with n v0 v1 r4).bind fun r5 =>
 (R_ref10_Block r5 v1).bind fun r6 =>
 some r6)
 else ((ref10_deeper n v0 (IntKind.wrap .i64 (v1 + 1)) v5).bind fun r7 =>
 if r7 = true then ((R_ref10_Block v0 (IntKind.wrap .i64 (v1 + 1))).bind fun r8 =>
 some r8)
 else some b8)
abbrev hR27 (R_ref10_Block:(List (S_line_Line)) → Int → Option (S_ref10_Found)):Prop:=∀ (a0:List (S_line_Line)) (a1:Int) (r:S_ref10_Found),R_ref10_Block a0 a1 = some r → CallsX Tryz.prog 28 [rs24 a0,vi a1] (.agg [vi r.f_N.f_Kind,.str r.f_N.f_Text,ls r.f_N.f_Keys,tn8 r.f_N.f_Kids,vi r.f_Next,vi r.f_No,vi r.f_E])
theorem ok_ref10_row_j2 (R_ref10_Block:(List (S_line_Line)) → Int → Option (S_ref10_Found)) (hR_ref10_Block:hR27 R_ref10_Block) (n:Nat) (v0:List (S_line_Line)) (v1:Int) (v5:Int) (v49:Bool) (b4:S_ref10_Found) (b6:S_api_Node) (b7:S_line_Line) (b8:S_ref10_Found) (o:S_ref10_Found) (h:ref10_row_j2 R_ref10_Block n v0 v1 v5 v49 b4 b6 b7 b8 = some o) {F0:Fz} {w0:Pt Tryz.prog} {Q:Exit → Act → World → Prop} (hQ:To 82 F0 w0 [(0,rs24 v0),(4,.own 4 0),(5,vi v5),(6,.own 6 0),(8,.own 8 0)] [(4,55,(E_ref10_Found b4)),(6,26,qc14 4363 b6),(8,55,qc26 o),(4363,26,[rc12 b6.f_Kids])] .normal Q):Wp Tryz.prog 82 F0 w0 [(0,rs24 v0),(1,vi v1),(4,.own 4 0),(5,vi v5),(6,.own 6 0),(7,.own 7 0),(8,.own 8 0),(49,vb v49)] [(4,55,(E_ref10_Found b4)),(6,26,qc14 4363 b6),(7,57,qc3 b7),(8,55,(E_ref10_Found b8)),(4363,26,[rc12 b6.f_Kids])] (cB (cA (cB (cB (cB (cB (cI (cB (cI (cI (cA (cB (cB (cB (cF Tryz.f60))))))))))))))) Q:=by
 unfold ref10_row_j2 at h
 refine cn h (fun h=>?_) (fun h=>?_)
 ·obtain ⟨r4,hr4,h⟩:=bind_of h
  obtain ⟨r5,hr5,h⟩:=bind_of h
  obtain ⟨r6,hr6,h⟩:=bind_of h
  refine rr [] [(3,.agg (qc3 r4)),(4,rs24 r5),(6,.agg (qc26 r6))] [] [0,4,5,6,8] [4,6,8,4363] [(0,rs24 v0),(4,.own 4 0),(5,vi v5),(6,.own 6 0),(8,.own 8 0)] [(4,55,(E_ref10_Found b4)),(6,26,qc14 4363 b6),(8,55,(E_ref10_Found r6)),(4363,26,[rc12 b6.f_Kids])] [_,_,(true = true → CX Tryz.prog 28 [rs24 r5,vi v1] (.agg (qc26 r6)))] (AllP.cons (c1 (ok_ref07_Cut n b7 1 _ hr4)) (AllP.cons (c1 (ok_ref10_with n v0 v1 r4 _ hr5)) (AllP.cons (fun _=>cx (hR_ref10_Block r5 v1 _ hr6)) AllP.nil))) (kt [0,4,5,6,8] [4,6,8,4363] [(0,rs24 v0),(4,.own 4 0),(5,vi v5),(6,.own 6 0),(8,.own 8 0)] [(4,55,(E_ref10_Found b4)),(6,26,qc14 4363 b6),(8,55,(E_ref10_Found r6)),(4363,26,[rc12 b6.f_Kids])] ?_)
  cases h
  exact hQ
 ·refine Wp.seq ?_
  obtain ⟨r7,hr7,h⟩:=bind_of h
  refine rc [] 4 [0,1,4,5,6,8,61] [4,6,8,4363] [(0,rs24 v0),(1,vi v1),(4,.own 4 0),(5,vi v5),(6,.own 6 0),(8,.own 8 0),(61,vb r7)] [(4,55,(E_ref10_Found b4)),(6,26,qc14 4363 b6),(8,55,(E_ref10_Found b8)),(4363,26,[rc12 b6.f_Kids])] (ok_ref10_deeper n v0 (IntKind.wrap .i64 (v1 + 1)) v5 _ hr7) (To.thenN (cn h (fun h=>?_) (fun h=>?_)))
  ·obtain ⟨r8,hr8,h⟩:=bind_of h
   refine rr [] [(3,.agg (qc26 r8))] [] [0,4,5,6,8] [4,6,8,4363] [(0,rs24 v0),(4,.own 4 0),(5,vi v5),(6,.own 6 0),(8,.own 8 0)] [(4,55,(E_ref10_Found b4)),(6,26,qc14 4363 b6),(8,55,(E_ref10_Found r8)),(4363,26,[rc12 b6.f_Kids])] [(true = true → CX Tryz.prog 28 [rs24 v0,vi (IntKind.wrap .i64 (v1 + 1))] (.agg (qc26 r8)))] (AllP.cons (fun _=>cx (hR_ref10_Block v0 (IntKind.wrap .i64 (v1 + 1)) _ hr8)) AllP.nil) (kt [0,4,5,6,8] [4,6,8,4363] [(0,rs24 v0),(4,.own 4 0),(5,vi v5),(6,.own 6 0),(8,.own 8 0)] [(4,55,(E_ref10_Found b4)),(6,26,qc14 4363 b6),(8,55,(E_ref10_Found r8)),(4363,26,[rc12 b6.f_Kids])] ?_)
   cases h
   exact hQ
  ·refine Wp.skip (kt [0,4,5,6,8] [4,6,8,4363] [(0,rs24 v0),(4,.own 4 0),(5,vi v5),(6,.own 6 0),(8,.own 8 0)] [(4,55,(E_ref10_Found b4)),(6,26,qc14 4363 b6),(8,55,(E_ref10_Found b8)),(4363,26,[rc12 b6.f_Kids])] ?_)
   cases h
   exact hQ
def ref10_row_l1 (R_ref10_Block:(List (S_line_Line)) → Int → Option (S_ref10_Found)) (n:Nat) (v0:List (S_line_Line)) (v5:Int):Nat → Int → S_ref10_Found → S_api_Node → Option (Sum (Int × S_ref10_Found × S_api_Node) (S_ref10_Found))
 | 0,_,_,_=>none
 | k + 1,v1,b4,b6=>if ((!((decide (v1 < (List.length v0:Int))) == true) || decide (0 ≤ v1 ∧ v1 < (List.length v0:Int)))) = true then (lett ((bif (decide (v1 < (List.length v0:Int))) then (decide ((((v0)[Int.toNat v1]?.getD (S_line_Line.mk 0 0 [])).f_Indent) ≥ v5)) else false):Bool) fun x1 =>
 if x1 = true then (if (decide (0 ≤ v1 ∧ v1 < (List.length v0:Int))) = true then (if (decide ((((v0)[Int.toNat v1]?.getD (S_line_Line.mk 0 0 [])).f_Indent) > v5)) = true then (lett (ref10_wrong (((v0)[Int.toNat v1]?.getD (S_line_Line.mk 0 0 [])).f_No) 3) fun r2 =>
 some (.inr r2))
 else ((ref10_Row n (((v0)[Int.toNat v1]?.getD (S_line_Line.mk 0 0 [])).f_Text)).bind fun r3 =>
 if (!r3) = true then (some (.inl (v1,b4,b6)))
 else ((ref10_row_j2 R_ref10_Block n v0 v1 v5 (decide ((List.length (((v0)[Int.toNat v1]?.getD (S_line_Line.mk 0 0 [])).f_Text):Int) > 1)) b4 b6 ((v0)[Int.toNat v1]?.getD (S_line_Line.mk 0 0 [])) (S_ref10_Found.mk (S_api_Node.mk 0 [] [] []) (IntKind.wrap .i64 (v1 + 1)) 0 0)).bind fun o4 =>
 if (o4.f_E != 0) = true then (some (.inr o4))
 else (if (decide ((List.length b6.f_Kids + List.length ([o4.f_N]:List (S_api_Node))) * (72 + 1) ≤ limit)) = true then (ref10_row_l1 R_ref10_Block n v0 v5 k o4.f_Next b4 (S_api_Node.mk b6.f_Kind b6.f_Text b6.f_Keys (b6.f_Kids ++ ([o4.f_N]:List (S_api_Node))))) else none)))) else none)
 else (some (.inl (v1,b4,b6)))) else none
abbrev ex66 (x0:List (S_line_Line)) (x1:Int):Nat × Nat × List D:=(7,57,[vi (((x0)[Int.toNat x1]?.getD zx4).f_No),vi (((x0)[Int.toNat x1]?.getD zx4).f_Indent),.str (((x0)[Int.toNat x1]?.getD zx4).f_Text)])
abbrev ex67 (x0:Int):Nat × Nat × List D:=(8,55,[vi 0,.str [],.val (.slice none 0 0),.val (.slice none 0 0),vi (IntKind.wrap .i64 (x0 + 1)),vi 0,vi 0])
abbrev ex68 (x0:List (S_line_Line)) (x1:Int):=(decide ((List.length (((x0)[Int.toNat x1]?.getD zx4).f_Text):Int) > 1))
abbrev ex69 (x0:List (S_line_Line)) (x1:Int) (x2:Int):=(decide ((((x0)[Int.toNat x1]?.getD zx4).f_Indent) > x2))
abbrev ex96 (x0:List (S_line_Line)) (x1:Int):=((x0)[Int.toNat x1]?.getD zx4)
theorem ok_ref10_row_l1 (R_ref10_Block:(List (S_line_Line)) → Int → Option (S_ref10_Found)) (hR_ref10_Block:hR27 R_ref10_Block) (n:Nat) (v0:List (S_line_Line)) (v5:Int) {F0:Fz} {w0:Pt Tryz.prog} {Q:Exit → Act → World → Prop} (k:Nat):∀ (v1:Int) (b4:S_ref10_Found) (b6:S_api_Node) (o:Sum (Int × S_ref10_Found × S_api_Node) (S_ref10_Found)),ref10_row_l1 R_ref10_Block n v0 v5 k v1 b4 b6 = some o → (Sum.elim (fun s=>To 82 F0 w0 [(1,vi s.1),(4,.own 4 0),(6,.own 6 0)] [(4,55,qc26 s.2.1),(6,26,qc14 4363 s.2.2),(4363,26,[rc12 s.2.2.f_Kids])] (.exit 0) Q) (fun s=>To 82 F0 w0 [(4,.own 4 0)] [(4,55,qc26 s)] .ret Q)) o → WL Tryz.prog 82 F0 w0 [(0,rs24 v0),(1,vi v1),(4,.own 4 0),(5,vi v5),(6,.own 6 0)] [(4,55,(E_ref10_Found b4)),(6,26,qc14 4363 b6),(4363,26,[rc12 b6.f_Kids])] (cI (cI (cA (cB (cB (cB (cF Tryz.f60))))))) Q:=by
 induction k with
 | zero=>intro v1 b4 b6 o h; cases h
 | succ k ih =>
  intro v1 b4 b6 o h hQ
  rw [ref10_row_l1] at h
  refine WL.round (Wp.seq (Wp.seq ?_))
  obtain ⟨hc7,h⟩:=chk_of h
  obtain ⟨x1,hx1,h⟩:=lett_of h
  refine r0 [0,1,4,5,6,27] [4,6,4363] [(0,rs24 v0),(1,vi v1),(4,.own 4 0),(5,vi v5),(6,.own 6 0),(27,vb (bif (ex65 v1 v0) then (decide (((ex96 v0 v1).f_Indent) ≥ v5)) else false))] [(4,55,(E_ref10_Found b4)),(6,26,qc14 4363 b6),(4363,26,[rc12 b6.f_Kids])] (AllP.cons hc7 AllP.nil) (To.eq (K':=[(0,rs24 v0),(1,vi v1),(4,.own 4 0),(5,vi v5),(6,.own 6 0),(27,vb x1)]) (L':=[(4,55,(E_ref10_Found b4)),(6,26,qc14 4363 b6),(4363,26,[rc12 b6.f_Kids])]) (by cases hx1; rfl) (by cases hx1; rfl) (To.thenN (cn h (fun h=>?_) (fun h=>?_))))
  ·refine Wp.skip (To.thenN (Wp.block (Wp.seq ?_)))
   obtain ⟨hc6,h⟩:=chk_of h
   refine r0 [0,1,4,5,6,7] [4,6,7,4363] [(0,rs24 v0),(1,vi v1),(4,.own 4 0),(5,vi v5),(6,.own 6 0),(7,.own 7 0)] [(4,55,(E_ref10_Found b4)),(6,26,qc14 4363 b6),(ex66 v0 v1),(4363,26,[rc12 b6.f_Kids])] (AllP.cons hc6 AllP.nil) (To.thenN (Wp.seq (Wp.seq (rg [0,1,4,5,6,7,35] [4,6,7,4363] [(0,rs24 v0),(1,vi v1),(4,.own 4 0),(5,vi v5),(6,.own 6 0),(7,.own 7 0),(35,vb (ex69 v0 v1 v5))] [(4,55,(E_ref10_Found b4)),(6,26,qc14 4363 b6),(ex66 v0 v1),(4363,26,[rc12 b6.f_Kids])] (To.thenN (cn h (fun h=>?_) (fun h=>?_)))))))
   ·refine Wp.seq ?_
    obtain ⟨r2,hr2,h⟩:=lett_of h
    refine rc [] 2 [4] [4] [(4,.own 4 0)] [(4,55,(E_ref10_Found r2))] (ok_ref10_wrong ((ex96 v0 v1).f_No) 3 _ hr2) (To.thenN (Wp.ret (To.thenR (To.blockR (To.thenR ?_)))))
    cases h
    exact hQ
   ·refine Wp.skip (To.thenN (Wp.seq (Wp.seq ?_)))
    obtain ⟨r3,hr3,h⟩:=bind_of h
    refine rc [] 2 [0,1,4,5,6,7,42] [4,6,7,4363] [(0,rs24 v0),(1,vi v1),(4,.own 4 0),(5,vi v5),(6,.own 6 0),(7,.own 7 0),(42,vb (!r3))] [(4,55,(E_ref10_Found b4)),(6,26,qc14 4363 b6),(ex66 v0 v1),(4363,26,[rc12 b6.f_Kids])] (ok_ref10_Row n ((ex96 v0 v1).f_Text) _ hr3) (To.thenN (cn h (fun h=>?_) (fun h=>?_)))
    ·refine Wp.exit (To.thenX (To.blockO (by decide) (To.thenX (kt [1,4,6] [4,6,4363] [(1,vi v1),(4,.own 4 0),(6,.own 6 0)] [(4,55,(E_ref10_Found b4)),(6,26,qc14 4363 b6),(4363,26,[rc12 b6.f_Kids])] ?_))))
     cases h
     exact hQ
    ·refine Wp.skip (To.thenN (Wp.seq (rg [0,1,4,5,6,7,8] [4,6,7,8,4363] [(0,rs24 v0),(1,vi v1),(4,.own 4 0),(5,vi v5),(6,.own 6 0),(7,.own 7 0),(8,.own 8 0)] [(4,55,(E_ref10_Found b4)),(6,26,qc14 4363 b6),(ex66 v0 v1),(ex67 v1),(4363,26,[rc12 b6.f_Kids])] (To.thenN (Wp.seq (Wp.seq (rg [0,1,4,5,6,7,8,49] [4,6,7,8,4363] [(0,rs24 v0),(1,vi v1),(4,.own 4 0),(5,vi v5),(6,.own 6 0),(7,.own 7 0),(8,.own 8 0),(49,vb (ex68 v0 v1))] [(4,55,(E_ref10_Found b4)),(6,26,qc14 4363 b6),(ex66 v0 v1),(ex67 v1),(4363,26,[rc12 b6.f_Kids])] (To.thenN ?_))))))))
     obtain ⟨o4,ho4,h⟩:=bind_of h
     refine kw [0,1,4,5,6,7,8,49] [4,6,7,8,4363] [(0,rs24 v0),(1,vi v1),(4,.own 4 0),(5,vi v5),(6,.own 6 0),(7,.own 7 0),(8,.own 8 0),(49,vb (ex68 v0 v1))] [(4,55,(E_ref10_Found b4)),(6,26,qc14 4363 b6),(ex66 v0 v1),(ex67 v1),(4363,26,[rc12 b6.f_Kids])] (Wp.weak (K':=[(0,rs24 v0),(1,vi v1),(4,.own 4 0),(5,vi v5),(6,.own 6 0),(7,.own 7 0),(8,.own 8 0),(49,vb (ex68 v0 v1))]) (L':=[(4,55,(E_ref10_Found b4)),(6,26,qc14 4363 b6),(ex66 v0 v1),(8,55,[vi 0,.str [],ls [],tn8 [],vi (IntKind.wrap .i64 (v1 + 1)),vi 0,vi 0]),(4363,26,[rc12 b6.f_Kids])]) (.cons (.refl _) (.cons (.refl _) (.cons (.refl _) (.cons (.refl _) (.cons (.refl _) (.cons (.refl _) (.cons (.refl _) (.cons (.refl _) .nil)))))))) (.cons (.cons (.refl _) (.cons (.refl _) (.cons (.refl _) (.cons (.refl _) (.cons (.refl _) (.cons (.refl _) (.cons (.refl _) .nil))))))) (.cons (.cons (.refl _) (.cons (.refl _) (.cons (.refl _) (.cons (.refl _) .nil)))) (.cons (.cons (.refl _) (.cons (.refl _) (.cons (.refl _) .nil))) (.cons (.cons (.refl _) (.cons (.refl _) (.cons (.zero _ _) (.cons (.zeroT _ _ _) (.cons (.refl _) (.cons (.refl _) (.cons (.refl _) .nil))))))) (.cons (.cons (.refl _) .nil) .nil))))) (ok_ref10_row_j2 R_ref10_Block hR_ref10_Block n v0 v1 v5 (ex68 v0 v1) b4 b6 (ex96 v0 v1) (S_ref10_Found.mk zx7 (IntKind.wrap .i64 (v1 + 1)) 0 0) o4 ho4 (To.thenN (Wp.seq (Wp.seq (rg [0,4,5,6,8,68] [4,6,8,4363] [(0,rs24 v0),(4,.own 4 0),(5,vi v5),(6,.own 6 0),(8,.own 8 0),(68,vb (o4.f_E != 0))] [(4,55,(E_ref10_Found b4)),(6,26,qc14 4363 b6),(8,55,(E_ref10_Found o4)),(4363,26,[rc12 b6.f_Kids])] (To.thenN (cn h (fun h=>?_) (fun h=>?_)))))))))
     ·refine Wp.seq (rg [4] [4] [(4,.own 4 0)] [(4,55,(E_ref10_Found o4))] (To.thenN (Wp.ret (To.thenR (To.blockR (To.thenR ?_))))))
      cases h
      exact hQ
     ·refine Wp.skip (To.thenN (Wp.seq ?_))
      obtain ⟨hc5,h⟩:=chk_of h
      refine rr [] [(4,rs13 [o4.f_N]),(5,rs13 (b6.f_Kids ++ ([o4.f_N]:List (S_api_Node))))] [] [0,4,5,6,8] [4,6,8,75] [(0,rs24 v0),(4,.own 4 0),(5,vi v5),(6,.own 6 0),(8,.own 8 0)] [(4,55,(E_ref10_Found b4)),(6,26,qc14 75 b6),(8,55,(E_ref10_Found o4)),(75,26,[rc12 (b6.f_Kids ++ ([o4.f_N]:List (S_api_Node)))])] [(MkOb 4 [vi o4.f_N.f_Kind,.str o4.f_N.f_Text,ls o4.f_N.f_Keys,tn8 o4.f_N.f_Kids] 1 (rs13 [o4.f_N]) ∧ GoodR (rs13 [o4.f_N])),_,(AppOb zx7 E_api_Node b6.f_Kids (List.flatMap E_api_Node ([o4.f_N]:List (S_api_Node))) (List.length ([o4.f_N]:List (S_api_Node))) (rs13 (b6.f_Kids ++ ([o4.f_N]:List (S_api_Node)))) ∧ GoodR (rs13 (b6.f_Kids ++ ([o4.f_N]:List (S_api_Node)))))] (AllP.cons (mkOb (by kernel_rfl) rfl (by kernel_rfl) (good_E_api_Node _)) (AllP.cons hc5 (AllP.cons (appOb rfl rfl (good_E_api_Node _)) AllP.nil))) (To.thenN (rg [0,1,4,5,6] [4,6,75] [(0,rs24 v0),(1,vi o4.f_Next),(4,.own 4 0),(5,vi v5),(6,.own 6 0)] [(4,55,(E_ref10_Found b4)),(6,26,qc14 75 b6),(75,26,[rc12 (b6.f_Kids ++ ([o4.f_N]:List (S_api_Node)))])] (To.blockN (nt [0,1,4,5,6] [4,6,75] [(75,4363)] [0,1,4,5,6] [4,6,4363] [(0,rs24 v0),(1,vi o4.f_Next),(4,.own 4 0),(5,vi v5),(6,.own 6 0)] [(4,55,(E_ref10_Found b4)),(6,26,qc14 4363 b6),(4363,26,[rc12 (b6.f_Kids ++ ([o4.f_N]:List (S_api_Node)))])] (To.again ?_)))))
      exact ih o4.f_Next b4 (S_api_Node.mk b6.f_Kind b6.f_Text b6.f_Keys (b6.f_Kids ++ ([o4.f_N]:List (S_api_Node)))) _ h hQ
  ·refine Wp.exit (To.thenX (To.thenX (kt [1,4,6] [4,6,4363] [(1,vi v1),(4,.own 4 0),(6,.own 6 0)] [(4,55,(E_ref10_Found b4)),(6,26,qc14 4363 b6),(4363,26,[rc12 b6.f_Kids])] ?_)))
   cases h
   exact hQ
def ref10_row (R_ref10_Block:(List (S_line_Line)) → Int → Option (S_ref10_Found)) (n:Nat) (a0:List (S_line_Line)) (a1:Int):Option (S_ref10_Found) :=
 if (decide (0 ≤ a1 ∧ a1 < (List.length a0:Int))) = true then ((ref10_row_l1 R_ref10_Block n a0 (((a0)[Int.toNat a1]?.getD (S_line_Line.mk 0 0 [])).f_Indent) n a1 (S_ref10_Found.mk (S_api_Node.mk 0 [] [] []) 0 0 0) (S_api_Node.mk 2 [] [] [])).bind fun o1 =>
 (Sum.elim (fun o1=>some (S_ref10_Found.mk o1.2.2 o1.1 0 0)) (fun o1=>some o1)) o1) else none
abbrev ex97 (x0:List (S_line_Line)) (x1:Int):Nat × D:=(5,vi ((ex63 x0 x1).f_Indent))
theorem ok_ref10_row (R_ref10_Block:(List (S_line_Line)) → Int → Option (S_ref10_Found)) (hR_ref10_Block:hR27 R_ref10_Block) (n:Nat) (a0:List (S_line_Line)) (a1:Int) (r:S_ref10_Found) (h:ref10_row R_ref10_Block n a0 a1 = some r):CallsX Tryz.prog 60 [rs24 a0,vi a1] (.agg (qc26 r)):=by
 unfold ref10_row at h
 refine xo Tryz.f60 rfl fun F0 w0 _=>?_
 refine Wp.seq (rg [0,1,4] [4] [(0,rs24 a0),(1,vi a1),(4,.own 4 0)] [(4,55,[vi 0,.str [],.val (.slice none 0 0),.val (.slice none 0 0),vi 0,vi 0,vi 0])] (To.thenN (Wp.seq ?_)))
 obtain ⟨hc2,h⟩:=chk_of h
 refine r0 [0,1,4,5] [4] [(0,rs24 a0),(1,vi a1),(4,.own 4 0),(ex97 a0 a1)] [(4,55,[vi 0,.str [],.val (.slice none 0 0),.val (.slice none 0 0),vi 0,vi 0,vi 0])] (AllP.cons hc2 AllP.nil) (To.thenN (Wp.seq (rg [0,1,4,5,6] [4,6] [(0,rs24 a0),(1,vi a1),(4,.own 4 0),(ex97 a0 a1),(6,.own 6 0)] [(4,55,[vi 0,.str [],.val (.slice none 0 0),.val (.slice none 0 0),vi 0,vi 0,vi 0]),(6,26,[vi 2,.str [],.val (.slice none 0 0),.val (.slice none 0 0)])] (To.thenN (Wp.seq (Wp.block ?_))))))
 obtain ⟨o1,ho1,h⟩:=bind_of h
 refine kw [0,1,4,5,6] [4,6] [(0,rs24 a0),(1,vi a1),(4,.own 4 0),(ex97 a0 a1),(6,.own 6 0)] [(4,55,[vi 0,.str [],.val (.slice none 0 0),.val (.slice none 0 0),vi 0,vi 0,vi 0]),(6,26,[vi 2,.str [],.val (.slice none 0 0),.val (.slice none 0 0)])] (Wp.pre (St.vacantB 6 3 4363 26 (good_E_api_Node _) (by decide) (by kernel_rfl) (L':=[(4,55,[vi 0,.str [],.val (.slice none 0 0),.val (.slice none 0 0),vi 0,vi 0,vi 0]),(6,26,[vi 2,.str [],.val (.slice none 0 0),.row 4363])]) (by kernel_rfl)) (kw [0,1,4,5,6] [4,6,4363] [(0,rs24 a0),(1,vi a1),(4,.own 4 0),(ex97 a0 a1),(6,.own 6 0)] [(4,55,[vi 0,.str [],.val (.slice none 0 0),.val (.slice none 0 0),vi 0,vi 0,vi 0]),(6,26,[vi 2,.str [],.val (.slice none 0 0),.row 4363]),(4363,26,[rc12 []])] (Wp.weak (K':=[(0,rs24 a0),(1,vi a1),(4,.own 4 0),(ex97 a0 a1),(6,.own 6 0)]) (L':=[(4,55,[vi 0,.str [],ls [],tn8 [],vi 0,vi 0,vi 0]),(6,26,[vi 2,.str [],ls [],.row 4363]),(4363,26,[rc12 []])]) (.cons (.refl _) (.cons (.refl _) (.cons (.refl _) (.cons (.refl _) (.cons (.refl _) .nil))))) (.cons (.cons (.refl _) (.cons (.refl _) (.cons (.zero _ _) (.cons (.zeroT _ _ _) (.cons (.refl _) (.cons (.refl _) (.cons (.refl _) .nil))))))) (.cons (.cons (.refl _) (.cons (.refl _) (.cons (.zero _ _) (.cons (.refl _) .nil)))) (.cons (.cons (.refl _) .nil) .nil))) (Wp.loopL (ok_ref10_row_l1 R_ref10_Block hR_ref10_Block n a0 ((ex63 a0 a1).f_Indent) n a1 (S_ref10_Found.mk zx7 0 0 0) (S_api_Node.mk 2 [] [] []) o1 ho1 ?_)))))
 rcases o1 with o1 | o1
 ·replace h:=sum_l h
  refine To.blockX (To.thenN (Wp.seq (rg [4] [4,4363] [(4,.own 4 0)] [(4,55,[vi o1.2.2.f_Kind,.str o1.2.2.f_Text,ls o1.2.2.f_Keys,.row 4363,vi o1.1,vi 0,vi 0]),(4363,26,[rc12 o1.2.2.f_Kids])] (To.thenN (Wp.ret (To.pre (St.settle (ks:=[4363]) (kk:=[4]) (kl:=[4,4363]) (K':=[(4,.own 4 0)]) (L':=[(4,55,[vi o1.2.2.f_Kind,.str o1.2.2.f_Text,ls o1.2.2.f_Keys,.row 4363,vi o1.1,vi 0,vi 0]),(4363,26,[rc15 o1.2.2.f_Kids])]) (by kernel_rfl)) (To.pre (St.sealB [4] (L':=[(4,55,[vi o1.2.2.f_Kind,.str o1.2.2.f_Text,ls o1.2.2.f_Keys,rs13 o1.2.2.f_Kids,vi o1.1,vi 0,vi 0]),(4363,26,[rc15 o1.2.2.f_Kids])]) (by kernel_rfl)) (To.weak (K':=[(4,.own 4 0)]) (L':=[(4,55,[vi o1.2.2.f_Kind,.str o1.2.2.f_Text,ls o1.2.2.f_Keys,tn8 o1.2.2.f_Kids,vi o1.1,vi 0,vi 0]),(4363,26,[rc15 o1.2.2.f_Kids])]) (.cons (.refl _) .nil) (.cons (.cons (.refl _) (.cons (.refl _) (.cons (.refl _) (.cons (.close _ _ _ _) (.cons (.refl _) (.cons (.refl _) (.cons (.refl _) .nil))))))) (.cons (.cons (.refl _) .nil) .nil)) ?_))))))))
  cases h
  exact To.done hΓ (by kernel_rfl)
 ·replace h:=sum_r h
  refine To.blockR (To.thenR ?_)
  cases h
  exact To.done hΓ (by kernel_rfl)
def ref10_marked (n:Nat) (a0:List UInt8) (a1:Int):Option (Bool) :=
 if ((!((decide (a1 < (List.length a0:Int))) == true) || decide (0 ≤ a1 ∧ a1 < (List.length a0:Int)))) = true then (if ((!((((IntKind.wrap .i64 (a1 + 1)) == (List.length a0:Int)) == false) && ((bif (decide (a1 < (List.length a0:Int))) then ((((a0)[Int.toNat a1]?.getD 0).toNat:Int) == 58) else false) == true)) || decide (0 ≤ (IntKind.wrap .i64 (a1 + 1)) ∧ (IntKind.wrap .i64 (a1 + 1)) < (List.length a0:Int)))) = true then (lett ((bif (bif (decide (a1 < (List.length a0:Int))) then ((((a0)[Int.toNat a1]?.getD 0).toNat:Int) == 58) else false) then (bif ((IntKind.wrap .i64 (a1 + 1)) == (List.length a0:Int)) then true else ((((a0)[Int.toNat (IntKind.wrap .i64 (a1 + 1))]?.getD 0).toNat:Int) == 32)) else false):Bool) fun x1 =>
 some x1) else none) else none
theorem ok_ref10_marked (n:Nat) (a0:List UInt8) (a1:Int) (r:Bool) (h:ref10_marked n a0 a1 = some r):CallsX Tryz.prog 36 [.str a0,vi a1] (vb r):=by
 unfold ref10_marked at h
 refine xo Tryz.f36 rfl fun F0 w0 _=>?_
 refine Wp.seq (rg [0,1] [] [(0,.str a0),(1,vi a1)] [] (To.thenN (Wp.seq ?_)))
 obtain ⟨hc2,h⟩:=chk_of h
 obtain ⟨hc3,h⟩:=chk_of h
 obtain ⟨x1,hx1,h⟩:=lett_of h
 refine r0 [4] [] [(4,vb (bif (bif (ex9 a1 a0) then ((ex6 a0 a1) == 58) else false) then (ex81 a1 a0) else false))] [] (AllP.cons hc2 (AllP.cons hc3 AllP.nil)) (To.eq (K':=[(4,vb x1)]) (L':=[]) (by cases hx1; rfl) (by cases hx1; rfl) (To.thenN (Wp.ret ?_)))
 cases h
 exact To.done hΓ (by kernel_rfl)
def ref10_behind_l1 (n:Nat) (v0:List UInt8):Nat → Int → Option (Int)
 | 0,_=>none
 | k + 1,v1=>if ((!((decide (v1 < (List.length v0:Int))) == true) || decide (0 ≤ v1 ∧ v1 < (List.length v0:Int)))) = true then (if (bif (decide (v1 < (List.length v0:Int))) then ((((v0)[Int.toNat v1]?.getD 0).toNat:Int) == 32) else false) = true then (ref10_behind_l1 n v0 k (IntKind.wrap .i64 (v1 + 1)))
 else some v1) else none
theorem ok_ref10_behind_l1 (n:Nat) (v0:List UInt8) {F0:Fz} {w0:Pt Tryz.prog} {Q:Exit → Act → World → Prop} (k:Nat):∀ (v1:Int) (o:Int),ref10_behind_l1 n v0 k v1 = some o → To 22 F0 w0 [(0,.str v0),(1,vi o)] [] (.exit 0) Q → WL Tryz.prog 22 F0 w0 [(0,.str v0),(1,vi v1)] [] (cI (cI (cA (cB (cB (cF Tryz.f37)))))) Q:=by
 induction k with
 | zero=>intro v1 o h; cases h
 | succ k ih =>
  intro v1 o h hQ
  rw [ref10_behind_l1] at h
  refine WL.round (Wp.seq (Wp.seq ?_))
  obtain ⟨hc1,h⟩:=chk_of h
  refine r0 [0,1,16] [] [(0,.str v0),(1,vi v1),(16,vb (ex94 v1 v0))] [] (AllP.cons hc1 AllP.nil) (To.thenN (cn h (fun h=>?_) (fun h=>?_)))
  ·refine Wp.skip (To.thenN (Wp.block (rg [0,1] [] [(0,.str v0),(ex11 v1)] [] (To.blockN (To.again ?_)))))
   exact ih (IntKind.wrap .i64 (v1 + 1)) _ h hQ
  ·refine Wp.exit (To.thenX (To.thenX (kt [0,1] [] [(0,.str v0),(1,vi v1)] [] ?_)))
   cases h
   exact hQ
def ref10_behind (n:Nat) (a0:List UInt8) (a1:Int):Option ((List UInt8)) :=
 (ref10_behind_l1 n a0 n (IntKind.wrap .i64 (a1 + 1))).bind fun o1 =>
 if (decide (0 ≤ o1 ∧ o1 ≤ (List.length a0:Int))) = true then (some (List.drop (Int.toNat o1) a0)) else none
theorem ok_ref10_behind (n:Nat) (a0:List UInt8) (a1:Int) (r:(List UInt8)) (h:ref10_behind n a0 a1 = some r):CallsX Tryz.prog 37 [.str a0,vi a1] (.str r):=by
 unfold ref10_behind at h
 refine xo Tryz.f37 rfl fun F0 w0 _=>?_
 refine Wp.seq (rg [0,1] [] [(0,.str a0),(1,vi a1)] [] (To.thenN (Wp.seq (rg [0,1] [] [(0,.str a0),(ex11 a1)] [] (To.thenN (Wp.seq (Wp.block ?_)))))))
 obtain ⟨o1,ho1,h⟩:=bind_of h
 refine kw [0,1] [] [(0,.str a0),(ex11 a1)] [] (Wp.loopL (ok_ref10_behind_l1 n a0 n (IntKind.wrap .i64 (a1 + 1)) o1 ho1 (To.blockX (To.thenN (Wp.seq ?_)))))
 obtain ⟨hc2,h⟩:=chk_of h
 refine r0 [4] [] [(4,.str (List.drop (Int.toNat o1) a0))] [] (AllP.cons hc2 AllP.nil) (To.thenN (Wp.ret ?_))
 cases h
 exact To.done hΓ (by kernel_rfl)
def ref06_one_l1 (n:Nat) (v0:Int) (v1:List UInt8):Nat → Int → Option (Sum (Unit) (Bool))
 | 0,_=>none
 | k + 1,v5=>if (decide (v5 < (List.length v1:Int))) = true then (if (decide (0 ≤ v5 ∧ v5 < (List.length v1:Int))) = true then (if ((((v1)[Int.toNat v5]?.getD 0).toNat:Int) == v0) = true then (some (.inr true))
 else (ref06_one_l1 n v0 v1 k (IntKind.wrap .i64 (v5 + 1)))) else none)
 else (some (.inl ()))
theorem ok_ref06_one_l1 (n:Nat) (v0:Int) (v1:List UInt8) {F0:Fz} {w0:Pt Tryz.prog} {Q:Exit → Act → World → Prop} (k:Nat):∀ (v5:Int) (o:Sum (Unit) (Bool)),ref06_one_l1 n v0 v1 k v5 = some o → (Sum.elim (fun s=>To 17 F0 w0 [] [] (.exit 0) Q) (fun s=>To 17 F0 w0 [(4,vb s)] [] .ret Q)) o → WL Tryz.prog 17 F0 w0 [(0,.val (.int .u8 v0)),(1,.str v1),(5,vi v5)] [] (cI (cI (cB (cA (cB (cF Tryz.f74)))))) Q:=by
 induction k with
 | zero=>intro v5 o h; cases h
 | succ k ih =>
  intro v5 o h hQ
  rw [ref06_one_l1] at h
  refine WL.round (Wp.seq (Wp.seq (rg [0,1,5,9] [] [(0,.val (.int .u8 v0)),(1,.str v1),(5,vi v5),(9,vb (ex9 v5 v1))] [] (To.thenN (cn h (fun h=>?_) (fun h=>?_))))))
  ·refine Wp.skip (To.thenN (Wp.seq (Wp.block (Wp.seq ?_))))
   obtain ⟨hc1,h⟩:=chk_of h
   refine r0 [0,1,5,16] [] [(0,.val (.int .u8 v0)),(1,.str v1),(5,vi v5),(16,vb ((ex6 v1 v5) == v0))] [] (AllP.cons hc1 AllP.nil) (To.thenN (cn h (fun h=>?_) (fun h=>?_)))
   ·refine Wp.seq (rg [4] [] [(4,vb true)] [] (To.thenN (Wp.ret (To.blockR (To.thenR (To.thenR ?_))))))
    cases h
    exact hQ
   ·refine Wp.skip (To.blockN (To.thenN (rg [0,1,5] [] [(0,.val (.int .u8 v0)),(1,.str v1),(ex12 v5)] [] (kt [0,1,5] [] [(0,.val (.int .u8 v0)),(1,.str v1),(ex12 v5)] [] (To.again ?_)))))
    exact ih (IntKind.wrap .i64 (v5 + 1)) _ h hQ
  ·refine Wp.exit (To.thenX (To.thenX (kt [] [] [] [] ?_)))
   cases h
   exact hQ
def ref06_one (n:Nat) (a0:Int) (a1:List UInt8):Option (Bool) :=
 (ref06_one_l1 n a0 a1 n 0).bind fun o1 =>
 (Sum.elim (fun o1=>some false) (fun o1=>some o1)) o1
theorem ok_ref06_one (n:Nat) (a0:Int) (a1:List UInt8) (r:Bool) (h:ref06_one n a0 a1 = some r):CallsX Tryz.prog 74 [.val (.int .u8 a0),.str a1] (vb r):=by
 unfold ref06_one at h
 refine xo Tryz.f74 rfl fun F0 w0 _=>?_
 refine Wp.seq (rg [0,1] [] [(0,.val (.int .u8 a0)),(1,.str a1)] [] (To.thenN (Wp.seq (Wp.seq (rg [0,1,5] [] [(0,.val (.int .u8 a0)),(1,.str a1),(5,vi 0)] [] (To.thenN (Wp.block ?_)))))))
 obtain ⟨o1,ho1,h⟩:=bind_of h
 refine kw [0,1,5] [] [(0,.val (.int .u8 a0)),(1,.str a1),(5,vi 0)] [] (Wp.loopL (ok_ref06_one_l1 n a0 a1 n 0 o1 ho1 ?_))
 rcases o1 with o1 | o1
 ·replace h:=sum_l h
  refine To.blockX (To.thenN (Wp.seq (rg [4] [] [(4,vb false)] [] (To.thenN (Wp.ret ?_)))))
  cases h
  exact To.done hΓ (by kernel_rfl)
 ·replace h:=sum_r h
  refine To.blockR (To.thenR ?_)
  cases h
  exact To.done hΓ (by kernel_rfl)
def ref06_Plain_l1 (n:Nat) (v0:List UInt8) (v3:Int):Nat → Int → Option (Sum (Unit) (Bool))
 | 0,_=>none
 | k + 1,v4=>if (decide (v4 < v3)) = true then (if (decide (0 ≤ v4 ∧ v4 < (List.length v0:Int))) = true then (if (!(ref06_Good (((v0)[Int.toNat v4]?.getD 0).toNat:Int))) = true then (some (.inr false))
 else (if (decide (0 ≤ v4 ∧ v4 < (List.length v0:Int))) = true then (if ((!(((v4 == (IntKind.wrap .i64 (v3 - 1))) == false) && (((((v0)[Int.toNat v4]?.getD 0).toNat:Int) == 58) == true)) || decide (0 ≤ (IntKind.wrap .i64 (v4 + 1)) ∧ (IntKind.wrap .i64 (v4 + 1)) < (List.length v0:Int)))) = true then (lett ((bif ((((v0)[Int.toNat v4]?.getD 0).toNat:Int) == 58) then (bif (v4 == (IntKind.wrap .i64 (v3 - 1))) then true else ((((v0)[Int.toNat (IntKind.wrap .i64 (v4 + 1))]?.getD 0).toNat:Int) == 32)) else false):Bool) fun x4 =>
 if x4 = true then (some (.inr false))
 else (if (decide (0 ≤ v4 ∧ v4 < (List.length v0:Int))) = true then (if ((!((bif ((((v0)[Int.toNat v4]?.getD 0).toNat:Int) == 35) then (decide (v4 > 0)) else false) == true) || decide (0 ≤ (IntKind.wrap .i64 (v4 - 1)) ∧ (IntKind.wrap .i64 (v4 - 1)) < (List.length v0:Int)))) = true then (lett ((bif (bif ((((v0)[Int.toNat v4]?.getD 0).toNat:Int) == 35) then (decide (v4 > 0)) else false) then ((((v0)[Int.toNat (IntKind.wrap .i64 (v4 - 1))]?.getD 0).toNat:Int) == 32) else false):Bool) fun x5 =>
 if x5 = true then (some (.inr false))
 else (ref06_Plain_l1 n v0 v3 k (IntKind.wrap .i64 (v4 + 1)))) else none) else none)) else none) else none)) else none)
 else (some (.inl ()))
theorem ok_ref06_Plain_l1 (n:Nat) (v0:List UInt8) (v3:Int) {F0:Fz} {w0:Pt Tryz.prog} {Q:Exit → Act → World → Prop} (k:Nat):∀ (v4:Int) (o:Sum (Unit) (Bool)),ref06_Plain_l1 n v0 v3 k v4 = some o → (Sum.elim (fun s=>To 86 F0 w0 [] [] (.exit 0) Q) (fun s=>To 86 F0 w0 [(2,vb s)] [] .ret Q)) o → WL Tryz.prog 86 F0 w0 [(0,.str v0),(3,vi v3),(4,vi v4)] [] (cI (cI (cB (cA (cB (cB (cB (cB (cB (cF Tryz.f38)))))))))) Q:=by
 induction k with
 | zero=>intro v4 o h; cases h
 | succ k ih =>
  intro v4 o h hQ
  rw [ref06_Plain_l1] at h
  refine WL.round (Wp.seq (Wp.seq (rg [0,3,4,46] [] [(0,.str v0),(3,vi v3),(4,vi v4),(46,vb (decide (v4 < v3)))] [] (To.thenN (cn h (fun h=>?_) (fun h=>?_))))))
  ·refine Wp.skip (To.thenN (Wp.seq (Wp.block (Wp.seq (Wp.seq ?_)))))
   obtain ⟨hc10,h⟩:=chk_of h
   refine rr [] [(3,vb (ref06_Good (ex6 v0 v4)))] [] [0,3,4,53] [] [(0,.str v0),(3,vi v3),(4,vi v4),(53,vb (!(ref06_Good (ex6 v0 v4))))] [] [_,_] (AllP.cons hc10 (AllP.cons (c1 (ok_ref06_Good (ex6 v0 v4) _ rfl)) AllP.nil)) (To.thenN (cn h (fun h=>?_) (fun h=>?_)))
   ·refine Wp.seq (rg [2] [] [(2,vb false)] [] (To.thenN (Wp.ret (To.thenR (To.blockR (To.thenR (To.thenR ?_)))))))
    cases h
    exact hQ
   ·refine Wp.skip (To.thenN (Wp.seq (Wp.seq ?_)))
    obtain ⟨hc8,h⟩:=chk_of h
    obtain ⟨hc9,h⟩:=chk_of h
    obtain ⟨x4,hx4,h⟩:=lett_of h
    refine r0 [0,3,4,70] [] [(0,.str v0),(3,vi v3),(4,vi v4),(70,vb (bif ((ex6 v0 v4) == 58) then (bif (v4 == (IntKind.wrap .i64 (v3 - 1))) then true else (((ex7 v0 v4).toNat:Int) == 32)) else false))] [] (AllP.cons hc8 (AllP.cons hc9 AllP.nil)) (To.eq (K':=[(0,.str v0),(3,vi v3),(4,vi v4),(70,vb x4)]) (L':=[]) (by cases hx4; rfl) (by cases hx4; rfl) (To.thenN (cn h (fun h=>?_) (fun h=>?_))))
    ·refine Wp.seq (rg [2] [] [(2,vb false)] [] (To.thenN (Wp.ret (To.thenR (To.blockR (To.thenR (To.thenR ?_)))))))
     cases h
     exact hQ
    ·refine Wp.skip (To.thenN (Wp.seq ?_))
     obtain ⟨hc6,h⟩:=chk_of h
     obtain ⟨hc7,h⟩:=chk_of h
     obtain ⟨x5,hx5,h⟩:=lett_of h
     refine r0 [0,3,4,85] [] [(0,.str v0),(3,vi v3),(4,vi v4),(85,vb (bif (bif ((ex6 v0 v4) == 35) then (decide (v4 > 0)) else false) then ((ex18 v0 v4) == 32) else false))] [] (AllP.cons hc6 (AllP.cons hc7 AllP.nil)) (To.eq (K':=[(0,.str v0),(3,vi v3),(4,vi v4),(85,vb x5)]) (L':=[]) (by cases hx5; rfl) (by cases hx5; rfl) (To.thenN (cn h (fun h=>?_) (fun h=>?_))))
     ·refine Wp.seq (rg [2] [] [(2,vb false)] [] (To.thenN (Wp.ret (To.blockR (To.thenR (To.thenR ?_))))))
      cases h
      exact hQ
     ·refine Wp.skip (To.blockN (To.thenN (rg [0,3,4] [] [(0,.str v0),(3,vi v3),(4,vi (IntKind.wrap .i64 (v4 + 1)))] [] (kt [0,3,4] [] [(0,.str v0),(3,vi v3),(4,vi (IntKind.wrap .i64 (v4 + 1)))] [] (To.again ?_)))))
      exact ih (IntKind.wrap .i64 (v4 + 1)) _ h hQ
  ·refine Wp.exit (To.thenX (To.thenX (kt [] [] [] [] ?_)))
   cases h
   exact hQ
def ref06_Plain (n:Nat) (a0:List UInt8):Option (Bool) :=
 if ((!((bif (bif ((List.length a0:Int) == 0) then true else (a0 == [126])) then true else (a0 == [110,117,108,108])) == false) || decide (0 ≤ (0:Int) ∧ (0:Int) < (List.length a0:Int)))) = true then (if ((!((bif (bif (bif ((List.length a0:Int) == 0) then true else (a0 == [126])) then true else (a0 == [110,117,108,108])) then true else ((((a0)[Int.toNat 0]?.getD 0).toNat:Int) == 32)) == false) || decide (0 ≤ (IntKind.wrap .i64 ((List.length a0:Int) - 1)) ∧ (IntKind.wrap .i64 ((List.length a0:Int) - 1)) < (List.length a0:Int)))) = true then (lett ((bif (bif (bif (bif ((List.length a0:Int) == 0) then true else (a0 == [126])) then true else (a0 == [110,117,108,108])) then true else ((((a0)[Int.toNat 0]?.getD 0).toNat:Int) == 32)) then true else ((((a0)[Int.toNat (IntKind.wrap .i64 ((List.length a0:Int) - 1))]?.getD 0).toNat:Int) == 32)):Bool) fun x1 =>
 if x1 = true then some false
 else (if (decide (0 ≤ (0:Int) ∧ (0:Int) < (List.length a0:Int))) = true then ((ref06_one n (((a0)[Int.toNat 0]?.getD 0).toNat:Int) [63,58,44,91,93,123,125,35,38,42,33,124,62,39,34,37,64,96]).bind fun r2 =>
 if r2 = true then some false
 else (if (decide (0 ≤ (0:Int) ∧ (0:Int) < (List.length a0:Int))) = true then (if ((!((((List.length a0:Int) == 1) == false) && (((((a0)[Int.toNat 0]?.getD 0).toNat:Int) == 45) == true)) || decide (0 ≤ (1:Int) ∧ (1:Int) < (List.length a0:Int)))) = true then (lett ((bif ((((a0)[Int.toNat 0]?.getD 0).toNat:Int) == 45) then (bif ((List.length a0:Int) == 1) then true else ((((a0)[Int.toNat 1]?.getD 0).toNat:Int) == 32)) else false):Bool) fun x3 =>
 if x3 = true then some false
 else ((ref06_Plain_l1 n a0 (List.length a0:Int) n 0).bind fun o4 =>
 (Sum.elim (fun o4=>some true) (fun o4=>some o4)) o4)) else none) else none)) else none)) else none) else none
abbrev ex70 (x0:List UInt8):=(bif (bif ((List.length x0:Int) == 0) then true else (x0 == [126])) then true else (x0 == [110,117,108,108]))
abbrev ex71 (x0:List UInt8):Nat × D:=(3,vi (List.length x0:Int))
theorem ok_ref06_Plain (n:Nat) (a0:List UInt8) (r:Bool) (h:ref06_Plain n a0 = some r):CallsX Tryz.prog 38 [.str a0] (vb r):=by
 unfold ref06_Plain at h
 refine xo Tryz.f38 rfl fun F0 w0 _=>?_
 refine Wp.seq (rg [0] [] [(0,.str a0)] [] (To.thenN (Wp.seq (rg [0,3] [] [(0,.str a0),(ex71 a0)] [] (To.thenN (Wp.seq (Wp.seq ?_)))))))
 obtain ⟨hc8,h⟩:=chk_of h
 obtain ⟨hc9,h⟩:=chk_of h
 obtain ⟨x1,hx1,h⟩:=lett_of h
 refine r0 [0,3,28] [] [(0,.str a0),(ex71 a0),(28,vb (bif (bif (ex70 a0) then true else ((ex23 a0) == 32)) then true else (ex92 a0)))] [] (AllP.cons hc8 (AllP.cons hc9 AllP.nil)) (To.eq (K':=[(0,.str a0),(ex71 a0),(28,vb x1)]) (L':=[]) (by cases hx1; rfl) (by cases hx1; rfl) (To.thenN (cn h (fun h=>?_) (fun h=>?_))))
 ·refine Wp.seq (rg [2] [] [(2,vb false)] [] (To.thenN (Wp.ret (To.thenR ?_))))
  cases h
  exact To.done hΓ (by kernel_rfl)
 ·refine Wp.skip (To.thenN (Wp.seq (Wp.seq ?_)))
  obtain ⟨hc7,h⟩:=chk_of h
  obtain ⟨r2,hr2,h⟩:=bind_of h
  refine rr [] [(2,vb r2)] [] [0,3,31] [] [(0,.str a0),(ex71 a0),(31,vb r2)] [] [_,_] (AllP.cons hc7 (AllP.cons (c1 (ok_ref06_one n (ex23 a0) [63,58,44,91,93,123,125,35,38,42,33,124,62,39,34,37,64,96] _ hr2)) AllP.nil)) (To.thenN (cn h (fun h=>?_) (fun h=>?_)))
  ·refine Wp.seq (rg [2] [] [(2,vb false)] [] (To.thenN (Wp.ret (To.thenR ?_))))
   cases h
   exact To.done hΓ (by kernel_rfl)
  ·refine Wp.skip (To.thenN (Wp.seq (Wp.seq ?_)))
   obtain ⟨hc5,h⟩:=chk_of h
   obtain ⟨hc6,h⟩:=chk_of h
   obtain ⟨x3,hx3,h⟩:=lett_of h
   refine r0 [0,3,43] [] [(0,.str a0),(ex71 a0),(43,vb (bif ((ex23 a0) == 45) then (bif ((List.length a0:Int) == 1) then true else ((ex4 a0) == 32)) else false))] [] (AllP.cons hc5 (AllP.cons hc6 AllP.nil)) (To.eq (K':=[(0,.str a0),(ex71 a0),(43,vb x3)]) (L':=[]) (by cases hx3; rfl) (by cases hx3; rfl) (To.thenN (cn h (fun h=>?_) (fun h=>?_))))
   ·refine Wp.seq (rg [2] [] [(2,vb false)] [] (To.thenN (Wp.ret (To.thenR ?_))))
    cases h
    exact To.done hΓ (by kernel_rfl)
   ·refine Wp.skip (To.thenN (Wp.seq (Wp.seq (rg [0,3,4] [] [(0,.str a0),(ex71 a0),(4,vi 0)] [] (To.thenN (Wp.block ?_))))))
    obtain ⟨o4,ho4,h⟩:=bind_of h
    refine kw [0,3,4] [] [(0,.str a0),(ex71 a0),(4,vi 0)] [] (Wp.loopL (ok_ref06_Plain_l1 n a0 (List.length a0:Int) n 0 o4 ho4 ?_))
    rcases o4 with o4 | o4
    ·replace h:=sum_l h
     refine To.blockX (To.thenN (Wp.seq (rg [2] [] [(2,vb true)] [] (To.thenN (Wp.ret ?_)))))
     cases h
     exact To.done hΓ (by kernel_rfl)
    ·replace h:=sum_r h
     refine To.blockR (To.thenR ?_)
     cases h
     exact To.done hΓ (by kernel_rfl)
def ref10_Entry_l1 (n:Nat) (v0:List UInt8):Nat → Int → Option (Sum (Unit) ((List UInt8) × (List UInt8) × Int))
 | 0,_=>none
 | k + 1,v8=>if (decide (v8 < (List.length v0:Int))) = true then ((ref10_marked n v0 v8).bind fun r6 =>
 if r6 = true then (if (decide (0 ≤ v8 ∧ v8 ≤ (List.length v0:Int))) = true then ((ref06_Plain n (List.take (Int.toNat v8) v0)).bind fun r7 =>
 if ((!((!r7) == false) || decide (0 ≤ v8 ∧ v8 ≤ (List.length v0:Int)))) = true then (if (bif (!r7) then true else ((List.take (Int.toNat v8) v0) == [60,60])) = true then (some (.inr ([],[],(-1))))
 else (if (decide (0 ≤ v8 ∧ v8 ≤ (List.length v0:Int))) = true then ((ref10_behind n v0 v8).bind fun r8 =>
 some (.inr ((List.take (Int.toNat v8) v0),r8,1))) else none)) else none) else none)
 else (ref10_Entry_l1 n v0 k (IntKind.wrap .i64 (v8 + 1))))
 else (some (.inl ()))
theorem ok_ref10_Entry_l1 (n:Nat) (v0:List UInt8) {F0:Fz} {w0:Pt Tryz.prog} {Q:Exit → Act → World → Prop} (k:Nat):∀ (v8:Int) (o:Sum (Unit) ((List UInt8) × (List UInt8) × Int)),ref10_Entry_l1 n v0 k v8 = some o → (Sum.elim (fun s=>To 77 F0 w0 [] [] (.exit 0) Q) (fun s=>To 77 F0 w0 [(2,.str s.1),(3,.str s.2.1),(4,vi s.2.2)] [] .ret Q)) o → WL Tryz.prog 77 F0 w0 [(0,.str v0),(8,vi v8)] [] (cI (cI (cB (cA (cB (cB (cB (cF Tryz.f13)))))))) Q:=by
 induction k with
 | zero=>intro v8 o h; cases h
 | succ k ih =>
  intro v8 o h hQ
  rw [ref10_Entry_l1] at h
  refine WL.round (Wp.seq (Wp.seq (rg [0,8,54] [] [(0,.str v0),(8,vi v8),(54,vb (ex9 v8 v0))] [] (To.thenN (cn h (fun h=>?_) (fun h=>?_))))))
  ·refine Wp.skip (To.thenN (Wp.seq (Wp.block (Wp.seq ?_))))
   obtain ⟨r6,hr6,h⟩:=bind_of h
   refine rc [] 2 [0,8,59] [] [(0,.str v0),(8,vi v8),(59,vb r6)] [] (ok_ref10_marked n v0 v8 _ hr6) (To.thenN (cn h (fun h=>?_) (fun h=>?_)))
   ·refine Wp.seq (Wp.seq ?_)
    obtain ⟨hc10,h⟩:=chk_of h
    obtain ⟨r7,hr7,h⟩:=bind_of h
    obtain ⟨hc11,h⟩:=chk_of h
    refine rr [] [(3,vb r7)] [] [0,8,70] [] [(0,.str v0),(8,vi v8),(70,vb (bif (!r7) then true else ((List.take (Int.toNat v8) v0) == [60,60])))] [] [_,_,_] (AllP.cons hc10 (AllP.cons (c1 (ok_ref06_Plain n (List.take (Int.toNat v8) v0) _ hr7)) (AllP.cons hc11 AllP.nil))) (To.thenN (cn h (fun h=>?_) (fun h=>?_)))
    ·refine Wp.seq (rg [2,3,4] [] [(2,.str []),(3,.str []),(4,vi (-1))] [] (To.thenN (Wp.ret (To.thenR (To.blockR (To.thenR (To.thenR ?_)))))))
     cases h
     exact hQ
    ·refine Wp.skip (To.thenN (Wp.seq ?_))
     obtain ⟨hc9,h⟩:=chk_of h
     obtain ⟨r8,hr8,h⟩:=bind_of h
     refine Wp.regionD hm hΓ [(5,.str r8)] [2,3,4] [] (K':=[(ex21 v8 v0),(3,.str r8),(4,vi 1)]) (L':=[]) (ob:=[(ex15 v8 v0) = true,(true = true → CX Tryz.prog 37 [.str v0,vi v8] (.str r8))]) (by kernel_rfl) (AllP.cons hc9 (AllP.cons (fun _=>cx (ok_ref10_behind n v0 v8 _ hr8)) AllP.nil)) (To.thenN (Wp.ret (To.blockR (To.thenR (To.thenR (kt [2,3,4] [] [(ex21 v8 v0),(3,.str r8),(4,vi 1)] [] ?_))))))
     cases h
     exact hQ
   ·refine Wp.skip (To.blockN (To.thenN (rg [0,8] [] [(0,.str v0),(ex44 v8)] [] (kt [0,8] [] [(0,.str v0),(ex44 v8)] [] (To.again ?_)))))
    exact ih (IntKind.wrap .i64 (v8 + 1)) _ h hQ
  ·refine Wp.exit (To.thenX (To.thenX (kt [] [] [] [] ?_)))
   cases h
   exact hQ
def ref10_Entry (n:Nat) (a0:List UInt8):Option ((List UInt8) × (List UInt8) × Int) :=
 ((if (((List.length a0:Int) == 0) == false) = true then ref10_Row n a0 else some false)).bind fun r1 =>
 if ((!((bif ((List.length a0:Int) == 0) then true else r1) == false) || decide (0 ≤ (0:Int) ∧ (0:Int) < (List.length a0:Int)))) = true then (if ((!((bif (bif ((List.length a0:Int) == 0) then true else r1) then true else ((((a0)[Int.toNat 0]?.getD 0).toNat:Int) == 91)) == false) || decide (0 ≤ (0:Int) ∧ (0:Int) < (List.length a0:Int)))) = true then (lett ((bif (bif (bif ((List.length a0:Int) == 0) then true else r1) then true else ((((a0)[Int.toNat 0]?.getD 0).toNat:Int) == 91)) then true else ((((a0)[Int.toNat 0]?.getD 0).toNat:Int) == 123)):Bool) fun x2 =>
 if x2 = true then (some ([],[],0))
 else (if (decide (0 ≤ (0:Int) ∧ (0:Int) < (List.length a0:Int))) = true then (if ((!(((((a0)[Int.toNat 0]?.getD 0).toNat:Int) == 34) == false) || decide (0 ≤ (0:Int) ∧ (0:Int) < (List.length a0:Int)))) = true then (if (bif ((((a0)[Int.toNat 0]?.getD 0).toNat:Int) == 34) then true else ((((a0)[Int.toNat 0]?.getD 0).toNat:Int) == 39)) = true then ((ref06_Scan n a0 0).bind fun r3 =>
 ((if ((r3.2.2 == 0) == true) = true then ref10_marked n a0 r3.2.1 else some false)).bind fun r4 =>
 if (bif (r3.2.2 == 0) then r4 else false) = true then ((ref10_behind n a0 r3.2.1).bind fun r5 =>
 some (r3.1,r5,1))
 else (some ([],[],0)))
 else ((ref10_Entry_l1 n a0 n 0).bind fun o6 =>
 (Sum.elim (fun o6=>some ([],[],0)) (fun o6=>some (o6.1,o6.2.1,o6.2.2))) o6)) else none) else none)) else none) else none
theorem ok_ref10_Entry (n:Nat) (a0:List UInt8) (r:(List UInt8) × (List UInt8) × Int) (h:ref10_Entry n a0 = some r):CallsX Tryz.prog 13 [.str a0] (.tup [.str r.1,.str r.2.1,vi r.2.2]):=by
 unfold ref10_Entry at h
 refine xo Tryz.f13 rfl fun F0 w0 _=>?_
 refine Wp.seq (rg [0] [] [(0,.str a0)] [] (To.thenN (Wp.seq (Wp.seq ?_))))
 obtain ⟨r1,hr1,h⟩:=bind_of h
 obtain ⟨hc9,h⟩:=chk_of h
 obtain ⟨hc10,h⟩:=chk_of h
 obtain ⟨x2,hx2,h⟩:=lett_of h
 refine rr [] [(5,vb r1)] [] [0,25] [] [(0,.str a0),(25,vb (bif (bif (bif ((List.length a0:Int) == 0) then true else r1) then true else ((ex23 a0) == 91)) then true else ((ex23 a0) == 123)))] [] [((((List.length a0:Int) == 0) == false) = true → CX Tryz.prog 15 [.str a0] (vb r1)),_,_] (AllP.cons (fun hg=>cx (ok_ref10_Row n a0 _ (if_t hg hr1))) (AllP.cons hc9 (AllP.cons hc10 AllP.nil))) (To.eq (K':=[(0,.str a0),(25,vb x2)]) (L':=[]) (by cases hx2; rfl) (by cases hx2; rfl) (To.thenN (cn h (fun h=>?_) (fun h=>?_))))
 ·refine Wp.seq (rg [2,3,4] [] [(2,.str []),(3,.str []),(4,vi 0)] [] (To.thenN (Wp.ret (To.thenR ?_))))
  cases h
  exact To.done hΓ (by kernel_rfl)
 ·refine Wp.skip (To.thenN (Wp.seq (Wp.seq ?_)))
  obtain ⟨hc7,h⟩:=chk_of h
  obtain ⟨hc8,h⟩:=chk_of h
  refine r0 [0,33] [] [(0,.str a0),(33,vb (ex85 a0))] [] (AllP.cons hc7 (AllP.cons hc8 AllP.nil)) (To.thenN (cn h (fun h=>?_) (fun h=>?_)))
  ·refine Wp.seq ?_
   obtain ⟨r3,hr3,h⟩:=bind_of h
   refine rc [] 1 [0,5,6,7] [] [(0,.str a0),(5,.str r3.1),(6,vi r3.2.1),(7,vi r3.2.2)] [] (ok_ref06_Scan n a0 0 _ hr3) (To.thenN (Wp.seq (Wp.seq ?_)))
   obtain ⟨r4,hr4,h⟩:=bind_of h
   refine rr [] [(5,vb r4)] [] [0,5,6,46] [] [(0,.str a0),(5,.str r3.1),(6,vi r3.2.1),(46,vb (bif (r3.2.2 == 0) then r4 else false))] [] [(((r3.2.2 == 0) == true) = true → CX Tryz.prog 36 [.str a0,vi r3.2.1] (vb r4))] (AllP.cons (fun hg=>cx (ok_ref10_marked n a0 r3.2.1 _ (if_t hg hr4))) AllP.nil) (To.thenN (cn h (fun h=>?_) (fun h=>?_)))
   ·refine Wp.seq ?_
    obtain ⟨r5,hr5,h⟩:=bind_of h
    refine rc [] 3 [2,3,4] [] [(2,.str r3.1),(3,.str r5),(4,vi 1)] [] (ok_ref10_behind n a0 r3.2.1 _ hr5) (To.thenN (Wp.ret (To.thenR (To.thenR ?_))))
    cases h
    exact To.done hΓ (by kernel_rfl)
   ·refine Wp.skip (To.thenN (Wp.seq (rg [2,3,4] [] [(2,.str []),(3,.str []),(4,vi 0)] [] (To.thenN (Wp.ret (To.thenR ?_))))))
    cases h
    exact To.done hΓ (by kernel_rfl)
  ·refine Wp.skip (To.thenN (Wp.seq (Wp.seq (rg [0,8] [] [(0,.str a0),(8,vi 0)] [] (To.thenN (Wp.block ?_))))))
   obtain ⟨o6,ho6,h⟩:=bind_of h
   refine kw [0,8] [] [(0,.str a0),(8,vi 0)] [] (Wp.loopL (ok_ref10_Entry_l1 n a0 n 0 o6 ho6 ?_))
   rcases o6 with o6 | o6
   ·replace h:=sum_l h
    refine To.blockX (To.thenN (Wp.seq (rg [2,3,4] [] [(2,.str []),(3,.str []),(4,vi 0)] [] (To.thenN (Wp.ret ?_)))))
    cases h
    exact To.done hΓ (by kernel_rfl)
   ·replace h:=sum_r h
    refine To.blockR (To.thenR ?_)
    cases h
    exact To.done hΓ (by kernel_rfl)
def ref02_In_l1 (n:Nat) (v0:List (List UInt8)) (v1:List UInt8):Nat → Int → Option (Sum (Unit) (Bool))
 | 0,_=>none
 | k + 1,v5=>if (decide (v5 < (List.length v0:Int))) = true then (if (decide (0 ≤ v5 ∧ v5 < (List.length v0:Int))) = true then (if (((v0)[Int.toNat v5]?.getD []) == v1) = true then (some (.inr true))
 else (ref02_In_l1 n v0 v1 k (IntKind.wrap .i64 (v5 + 1)))) else none)
 else (some (.inl ()))
theorem ok_ref02_In_l1 (n:Nat) (v0:List (List UInt8)) (v1:List UInt8) {F0:Fz} {w0:Pt Tryz.prog} {Q:Exit → Act → World → Prop} (k:Nat):∀ (v5:Int) (o:Sum (Unit) (Bool)),ref02_In_l1 n v0 v1 k v5 = some o → (Sum.elim (fun s=>To 18 F0 w0 [] [] (.exit 0) Q) (fun s=>To 18 F0 w0 [(4,vb s)] [] .ret Q)) o → WL Tryz.prog 18 F0 w0 [(0,ls v0),(1,.str v1),(5,vi v5)] [] (cI (cI (cB (cA (cB (cF Tryz.f96)))))) Q:=by
 induction k with
 | zero=>intro v5 o h; cases h
 | succ k ih =>
  intro v5 o h hQ
  rw [ref02_In_l1] at h
  refine WL.round (Wp.seq (Wp.seq (rg [0,1,5,9] [] [(0,ls v0),(1,.str v1),(5,vi v5),(9,vb (decide (v5 < (List.length v0:Int))))] [] (To.thenN (cn h (fun h=>?_) (fun h=>?_))))))
  ·refine Wp.skip (To.thenN (Wp.seq (Wp.block (Wp.seq ?_))))
   obtain ⟨hc1,h⟩:=chk_of h
   refine r0 [0,1,5,17] [] [(0,ls v0),(1,.str v1),(5,vi v5),(17,vb (((v0)[Int.toNat v5]?.getD []) == v1))] [] (AllP.cons hc1 AllP.nil) (To.thenN (cn h (fun h=>?_) (fun h=>?_)))
   ·refine Wp.seq (rg [4] [] [(4,vb true)] [] (To.thenN (Wp.ret (To.blockR (To.thenR (To.thenR ?_))))))
    cases h
    exact hQ
   ·refine Wp.skip (To.blockN (To.thenN (rg [0,1,5] [] [(0,ls v0),(1,.str v1),(ex12 v5)] [] (kt [0,1,5] [] [(0,ls v0),(1,.str v1),(ex12 v5)] [] (To.again ?_)))))
    exact ih (IntKind.wrap .i64 (v5 + 1)) _ h hQ
  ·refine Wp.exit (To.thenX (To.thenX (kt [] [] [] [] ?_)))
   cases h
   exact hQ
def ref02_In (n:Nat) (a0:List (List UInt8)) (a1:List UInt8):Option (Bool) :=
 (ref02_In_l1 n a0 a1 n 0).bind fun o1 =>
 (Sum.elim (fun o1=>some false) (fun o1=>some o1)) o1
theorem ok_ref02_In (n:Nat) (a0:List (List UInt8)) (a1:List UInt8) (r:Bool) (h:ref02_In n a0 a1 = some r):CallsX Tryz.prog 96 [ls a0,.str a1] (vb r):=by
 unfold ref02_In at h
 refine xo Tryz.f96 rfl fun F0 w0 _=>?_
 refine Wp.seq (rg [0,1] [] [(0,ls a0),(1,.str a1)] [] (To.thenN (Wp.seq (Wp.seq (rg [0,1,5] [] [(0,ls a0),(1,.str a1),(5,vi 0)] [] (To.thenN (Wp.block ?_)))))))
 obtain ⟨o1,ho1,h⟩:=bind_of h
 refine kw [0,1,5] [] [(0,ls a0),(1,.str a1),(5,vi 0)] [] (Wp.loopL (ok_ref02_In_l1 n a0 a1 n 0 o1 ho1 ?_))
 rcases o1 with o1 | o1
 ·replace h:=sum_l h
  refine To.blockX (To.thenN (Wp.seq (rg [4] [] [(4,vb false)] [] (To.thenN (Wp.ret ?_)))))
  cases h
  exact To.done hΓ (by kernel_rfl)
 ·replace h:=sum_r h
  refine To.blockR (To.thenR ?_)
  cases h
  exact To.done hΓ (by kernel_rfl)
def ref09_blanks_l1 (n:Nat) (v0:List UInt8):Nat → Int → Option (Int)
 | 0,_=>none
 | k + 1,v1=>if ((!((decide (v1 < (List.length v0:Int))) == true) || decide (0 ≤ v1 ∧ v1 < (List.length v0:Int)))) = true then (if (bif (decide (v1 < (List.length v0:Int))) then ((((v0)[Int.toNat v1]?.getD 0).toNat:Int) == 32) else false) = true then (ref09_blanks_l1 n v0 k (IntKind.wrap .i64 (v1 + 1)))
 else some v1) else none
theorem ok_ref09_blanks_l1 (n:Nat) (v0:List UInt8) {F0:Fz} {w0:Pt Tryz.prog} {Q:Exit → Act → World → Prop} (k:Nat):∀ (v1:Int) (o:Int),ref09_blanks_l1 n v0 k v1 = some o → To 18 F0 w0 [(1,vi o)] [] (.exit 0) Q → WL Tryz.prog 18 F0 w0 [(0,.str v0),(1,vi v1)] [] (cI (cI (cA (cB (cF Tryz.f117))))) Q:=by
 induction k with
 | zero=>intro v1 o h; cases h
 | succ k ih =>
  intro v1 o h hQ
  rw [ref09_blanks_l1] at h
  refine WL.round (Wp.seq (Wp.seq ?_))
  obtain ⟨hc1,h⟩:=chk_of h
  refine r0 [0,1,14] [] [(0,.str v0),(1,vi v1),(14,vb (ex94 v1 v0))] [] (AllP.cons hc1 AllP.nil) (To.thenN (cn h (fun h=>?_) (fun h=>?_)))
  ·refine Wp.skip (To.thenN (Wp.block (rg [0,1] [] [(0,.str v0),(ex11 v1)] [] (To.blockN (To.again ?_)))))
   exact ih (IntKind.wrap .i64 (v1 + 1)) _ h hQ
  ·refine Wp.exit (To.thenX (To.thenX (kt [1] [] [(1,vi v1)] [] ?_)))
   cases h
   exact hQ
def ref09_blanks (n:Nat) (a0:List UInt8) (a1:Int):Option (Int) :=
 (ref09_blanks_l1 n a0 n a1).bind fun o1 =>
 some o1
theorem ok_ref09_blanks (n:Nat) (a0:List UInt8) (a1:Int) (r:Int) (h:ref09_blanks n a0 a1 = some r):CallsX Tryz.prog 117 [.str a0,vi a1] (vi r):=by
 unfold ref09_blanks at h
 refine xo Tryz.f117 rfl fun F0 w0 _=>?_
 refine Wp.seq (rg [0,1] [] [(0,.str a0),(1,vi a1)] [] (To.thenN (Wp.seq (Wp.block ?_))))
 obtain ⟨o1,ho1,h⟩:=bind_of h
 refine kw [0,1] [] [(0,.str a0),(1,vi a1)] [] (Wp.loopL (ok_ref09_blanks_l1 n a0 n a1 o1 ho1 (To.blockX (To.thenN (Wp.seq (rg [4] [] [(4,vi o1)] [] (To.thenN (Wp.ret ?_))))))))
 cases h
 exact To.done hΓ (by kernel_rfl)
def ref09_is (n:Nat) (a0:List UInt8) (a1:Int) (a2:Int):Option (Bool) :=
 if ((!((decide (a1 < (List.length a0:Int))) == true) || decide (0 ≤ a1 ∧ a1 < (List.length a0:Int)))) = true then (some (bif (decide (a1 < (List.length a0:Int))) then ((((a0)[Int.toNat a1]?.getD 0).toNat:Int) == a2) else false)) else none
theorem ok_ref09_is (n:Nat) (a0:List UInt8) (a1:Int) (a2:Int) (r:Bool) (h:ref09_is n a0 a1 a2 = some r):CallsX Tryz.prog 151 [.str a0,vi a1,.val (.int .u8 a2)] (vb r):=by
 unfold ref09_is at h
 refine xo Tryz.f151 rfl fun F0 w0 _=>?_
 refine Wp.seq (rg [0,1,2] [] [(0,.str a0),(1,vi a1),(2,.val (.int .u8 a2))] [] (To.thenN (Wp.seq ?_)))
 obtain ⟨hc1,h⟩:=chk_of h
 refine r0 [6] [] [(6,vb (bif (ex9 a1 a0) then ((ex6 a0 a1) == a2) else false))] [] (AllP.cons hc1 AllP.nil) (To.thenN (Wp.ret ?_))
 cases h
 exact To.done hΓ (by kernel_rfl)
def ref09_row_l1 (R_ref09_value:(List UInt8) → Int → Option (S_api_Node × Int)) (n:Nat) (v0:List UInt8):Nat → Int → S_api_Node → S_api_Node → Option (Int × S_api_Node)
 | 0,_,_,_=>none
 | k + 1,v1,b4,b6=>(ref09_blanks n v0 v1).bind fun r3 =>
 (R_ref09_value v0 r3).bind fun r4 =>
 if (decide (r4.2 ≤ r3)) = true then (some ((-1),b6))
 else (if (decide ((List.length b6.f_Kids + List.length ([r4.1]:List (S_api_Node))) * (72 + 1) ≤ limit)) = true then ((ref09_blanks n v0 r4.2).bind fun r5 =>
 (ref09_is n v0 r5 93).bind fun r6 =>
 if r6 = true then (some ((IntKind.wrap .i64 (r5 + 1)),(S_api_Node.mk b6.f_Kind b6.f_Text b6.f_Keys (b6.f_Kids ++ ([r4.1]:List (S_api_Node))))))
 else ((ref09_is n v0 r5 44).bind fun r7 =>
 if (!r7) = true then (some ((-1),(S_api_Node.mk b6.f_Kind b6.f_Text b6.f_Keys (b6.f_Kids ++ ([r4.1]:List (S_api_Node))))))
 else (ref09_row_l1 R_ref09_value n v0 k (IntKind.wrap .i64 (r5 + 1)) b4 (S_api_Node.mk b6.f_Kind b6.f_Text b6.f_Keys (b6.f_Kids ++ ([r4.1]:List (S_api_Node))))))) else none)
abbrev hR28 (R_ref09_value:(List UInt8) → Int → Option (S_api_Node × Int)):Prop:=∀ (a0:List UInt8) (a1:Int) (r:S_api_Node × Int),R_ref09_value a0 a1 = some r → CallsX Tryz.prog 116 [.str a0,vi a1] (.tup [.agg [vi r.1.f_Kind,.str r.1.f_Text,ls r.1.f_Keys,tn8 r.1.f_Kids],vi r.2])
theorem ok_ref09_row_l1 (R_ref09_value:(List UInt8) → Int → Option (S_api_Node × Int)) (hR_ref09_value:hR28 R_ref09_value) (n:Nat) (v0:List UInt8) {F0:Fz} {w0:Pt Tryz.prog} {Q:Exit → Act → World → Prop} (k:Nat):∀ (v1:Int) (b4:S_api_Node) (b6:S_api_Node) (o:Int × S_api_Node),ref09_row_l1 R_ref09_value n v0 k v1 b4 b6 = some o → To 54 F0 w0 [(4,.own 4 0),(5,vi o.1)] [(4,26,qc14 4243 o.2),(4243,26,[rc12 o.2.f_Kids])] .ret Q → WL Tryz.prog 54 F0 w0 [(0,.str v0),(1,vi v1),(4,.own 4 0),(6,.own 6 0)] [(4,26,qc9 b4),(6,26,qc14 4363 b6),(4363,26,[rc12 b6.f_Kids])] (cI (cI (cB (cB (cB (cB (cF Tryz.f132))))))) Q:=by
 induction k with
 | zero=>intro v1 b4 b6 o h; cases h
 | succ k ih =>
  intro v1 b4 b6 o h hQ
  rw [ref09_row_l1] at h
  refine WL.round (Wp.block (Wp.seq ?_))
  obtain ⟨r3,hr3,h⟩:=bind_of h
  refine rc [] 2 [0,1,4,6] [4,6,4363] [(0,.str v0),(1,vi r3),(4,.own 4 0),(6,.own 6 0)] [(4,26,qc9 b4),(6,26,qc14 4363 b6),(4363,26,[rc12 b6.f_Kids])] (ok_ref09_blanks n v0 v1 _ hr3) (To.thenN (Wp.seq ?_))
  obtain ⟨r4,hr4,h⟩:=bind_of h
  refine rr [] [(2,.tup [.agg (qc9 r4.1),vi r4.2])] [] [0,1,4,6,7,8] [4,6,7,4363] [(0,.str v0),(1,vi r3),(4,.own 4 0),(6,.own 6 0),(7,.own 7 0),(8,vi r4.2)] [(4,26,qc9 b4),(6,26,qc14 4363 b6),(7,26,qc9 r4.1),(4363,26,[rc12 b6.f_Kids])] [(true = true → CX Tryz.prog 116 [.str v0,vi r3] (.tup [.agg (qc9 r4.1),vi r4.2]))] (AllP.cons (fun _=>cx (hR_ref09_value v0 r3 _ hr4)) AllP.nil) (To.thenN (Wp.seq (Wp.seq (rg [0,4,6,7,8,30] [4,6,7,4363] [(0,.str v0),(4,.own 4 0),(6,.own 6 0),(7,.own 7 0),(8,vi r4.2),(30,vb (decide (r4.2 ≤ r3)))] [(4,26,qc9 b4),(6,26,qc14 4363 b6),(7,26,qc9 r4.1),(4363,26,[rc12 b6.f_Kids])] (To.thenN (cn h (fun h=>?_) (fun h=>?_)))))))
  ·refine Wp.seq (rg [4,5] [4,4363] [(4,.own 4 0),(5,vi (-1))] [(4,26,qc14 4363 b6),(4363,26,[rc12 b6.f_Kids])] (To.thenN (Wp.ret (To.thenR (To.blockR (To.thenR (nt [4,5] [4,4363] [(4363,4243)] [4,5] [4,4243] [(4,.own 4 0),(5,vi (-1))] [(4,26,qc14 4243 b6),(4243,26,[rc12 b6.f_Kids])] ?_)))))))
   cases h
   exact hQ
  ·refine Wp.skip (To.thenN (Wp.seq ?_))
   obtain ⟨hc8,h⟩:=chk_of h
   refine rr [] [(3,rs13 [r4.1]),(4,rs13 (b6.f_Kids ++ ([r4.1]:List (S_api_Node))))] [] [0,4,6,8] [4,6,36] [(0,.str v0),(4,.own 4 0),(6,.own 6 0),(8,vi r4.2)] [(4,26,qc9 b4),(6,26,qc14 36 b6),(36,26,[rc12 (b6.f_Kids ++ ([r4.1]:List (S_api_Node)))])] [(MkOb 4 (qc9 r4.1) 1 (rs13 [r4.1]) ∧ GoodR (rs13 [r4.1])),_,(AppOb zx7 E_api_Node b6.f_Kids (List.flatMap E_api_Node ([r4.1]:List (S_api_Node))) (List.length ([r4.1]:List (S_api_Node))) (rs13 (b6.f_Kids ++ ([r4.1]:List (S_api_Node)))) ∧ GoodR (rs13 (b6.f_Kids ++ ([r4.1]:List (S_api_Node)))))] (AllP.cons (mkOb (by kernel_rfl) rfl (by kernel_rfl) (good_E_api_Node _)) (AllP.cons hc8 (AllP.cons (appOb rfl rfl (good_E_api_Node _)) AllP.nil))) (To.thenN (Wp.seq ?_))
   obtain ⟨r5,hr5,h⟩:=bind_of h
   refine rc [] 2 [0,1,4,6] [4,6,36] [(0,.str v0),(1,vi r5),(4,.own 4 0),(6,.own 6 0)] [(4,26,qc9 b4),(6,26,qc14 36 b6),(36,26,[rc12 (b6.f_Kids ++ ([r4.1]:List (S_api_Node)))])] (ok_ref09_blanks n v0 r4.2 _ hr5) (To.thenN (Wp.seq (Wp.seq ?_)))
   obtain ⟨r6,hr6,h⟩:=bind_of h
   refine rc [] 2 [0,1,4,6,43] [4,6,36] [(0,.str v0),(1,vi r5),(4,.own 4 0),(6,.own 6 0),(43,vb r6)] [(4,26,qc9 b4),(6,26,qc14 36 b6),(36,26,[rc12 (b6.f_Kids ++ ([r4.1]:List (S_api_Node)))])] (ok_ref09_is n v0 r5 93 _ hr6) (To.thenN (cn h (fun h=>?_) (fun h=>?_)))
   ·refine Wp.seq (rg [4,5] [4,36] [(4,.own 4 0),(5,vi (IntKind.wrap .i64 (r5 + 1)))] [(4,26,qc14 36 b6),(36,26,[rc12 (b6.f_Kids ++ ([r4.1]:List (S_api_Node)))])] (To.thenN (Wp.ret (To.thenR (To.blockR (To.thenR (nt [4,5] [4,36] [(36,4243)] [4,5] [4,4243] [(4,.own 4 0),(5,vi (IntKind.wrap .i64 (r5 + 1)))] [(4,26,qc14 4243 b6),(4243,26,[rc12 (b6.f_Kids ++ ([r4.1]:List (S_api_Node)))])] ?_)))))))
    cases h
    exact hQ
   ·refine Wp.skip (To.thenN (Wp.seq (Wp.seq ?_)))
    obtain ⟨r7,hr7,h⟩:=bind_of h
    refine rc [] 2 [0,1,4,6,50] [4,6,36] [(0,.str v0),(1,vi r5),(4,.own 4 0),(6,.own 6 0),(50,vb (!r7))] [(4,26,qc9 b4),(6,26,qc14 36 b6),(36,26,[rc12 (b6.f_Kids ++ ([r4.1]:List (S_api_Node)))])] (ok_ref09_is n v0 r5 44 _ hr7) (To.thenN (cn h (fun h=>?_) (fun h=>?_)))
    ·refine Wp.seq (rg [4,5] [4,36] [(4,.own 4 0),(5,vi (-1))] [(4,26,qc14 36 b6),(36,26,[rc12 (b6.f_Kids ++ ([r4.1]:List (S_api_Node)))])] (To.thenN (Wp.ret (To.thenR (To.blockR (To.thenR (nt [4,5] [4,36] [(36,4243)] [4,5] [4,4243] [(4,.own 4 0),(5,vi (-1))] [(4,26,qc14 4243 b6),(4243,26,[rc12 (b6.f_Kids ++ ([r4.1]:List (S_api_Node)))])] ?_)))))))
     cases h
     exact hQ
    ·refine Wp.skip (To.thenN (rg [0,1,4,6] [4,6,36] [(0,.str v0),(1,vi (IntKind.wrap .i64 (r5 + 1))),(4,.own 4 0),(6,.own 6 0)] [(4,26,qc9 b4),(6,26,qc14 36 b6),(36,26,[rc12 (b6.f_Kids ++ ([r4.1]:List (S_api_Node)))])] (To.blockN (nt [0,1,4,6] [4,6,36] [(36,4363)] [0,1,4,6] [4,6,4363] [(0,.str v0),(1,vi (IntKind.wrap .i64 (r5 + 1))),(4,.own 4 0),(6,.own 6 0)] [(4,26,qc9 b4),(6,26,qc14 4363 b6),(4363,26,[rc12 (b6.f_Kids ++ ([r4.1]:List (S_api_Node)))])] (To.again ?_)))))
     exact ih (IntKind.wrap .i64 (r5 + 1)) b4 (S_api_Node.mk b6.f_Kind b6.f_Text b6.f_Keys (b6.f_Kids ++ ([r4.1]:List (S_api_Node)))) _ h hQ
def ref09_row (R_ref09_value:(List UInt8) → Int → Option (S_api_Node × Int)) (n:Nat) (a0:List UInt8) (a1:Int):Option (S_api_Node × Int) :=
 (ref09_blanks n a0 a1).bind fun r1 =>
 (ref09_is n a0 r1 93).bind fun r2 =>
 if r2 = true then (some ((S_api_Node.mk 2 [] [] []),(IntKind.wrap .i64 (r1 + 1))))
 else ((ref09_row_l1 R_ref09_value n a0 n r1 (S_api_Node.mk 0 [] [] []) (S_api_Node.mk 2 [] [] [])).bind fun o3 =>
 some (o3.2,o3.1))
theorem ok_ref09_row (R_ref09_value:(List UInt8) → Int → Option (S_api_Node × Int)) (hR_ref09_value:hR28 R_ref09_value) (n:Nat) (a0:List UInt8) (a1:Int) (r:S_api_Node × Int) (h:ref09_row R_ref09_value n a0 a1 = some r):CallsX Tryz.prog 132 [.str a0,vi a1] (.tup [.agg (qc9 r.1),vi r.2]):=by
 unfold ref09_row at h
 refine xo Tryz.f132 rfl fun F0 w0 _=>?_
 refine Wp.seq (rg [0,1,4] [4] [(0,.str a0),(1,vi a1),(4,.own 4 0)] [(4,26,[vi 0,.str [],.val (.slice none 0 0),.val (.slice none 0 0)])] (To.thenN (Wp.seq (rg [0,1,4,6] [4,6] [(0,.str a0),(1,vi a1),(4,.own 4 0),(6,.own 6 0)] [(4,26,[vi 0,.str [],.val (.slice none 0 0),.val (.slice none 0 0)]),(6,26,[vi 2,.str [],.val (.slice none 0 0),.val (.slice none 0 0)])] (To.thenN (Wp.seq ?_))))))
 obtain ⟨r1,hr1,h⟩:=bind_of h
 refine rc [] 2 [0,1,4,6] [4,6] [(0,.str a0),(1,vi r1),(4,.own 4 0),(6,.own 6 0)] [(4,26,[vi 0,.str [],.val (.slice none 0 0),.val (.slice none 0 0)]),(6,26,[vi 2,.str [],.val (.slice none 0 0),.val (.slice none 0 0)])] (ok_ref09_blanks n a0 a1 _ hr1) (To.thenN (Wp.seq (Wp.seq ?_)))
 obtain ⟨r2,hr2,h⟩:=bind_of h
 refine rc [] 2 [0,1,4,6,15] [4,6] [(0,.str a0),(1,vi r1),(4,.own 4 0),(6,.own 6 0),(15,vb r2)] [(4,26,[vi 0,.str [],.val (.slice none 0 0),.val (.slice none 0 0)]),(6,26,[vi 2,.str [],.val (.slice none 0 0),.val (.slice none 0 0)])] (ok_ref09_is n a0 r1 93 _ hr2) (To.thenN (cn h (fun h=>?_) (fun h=>?_)))
 ·refine Wp.seq (rg [4,5] [4] [(4,.own 4 0),(5,vi (IntKind.wrap .i64 (r1 + 1)))] [(4,26,[vi 2,.str [],.val (.slice none 0 0),.val (.slice none 0 0)])] (To.thenN (Wp.ret (To.thenR (To.weak (K':=[(4,.own 4 0),(5,vi (IntKind.wrap .i64 (r1 + 1)))]) (L':=[(4,26,[vi 2,.str [],ls [],tn8 []])]) (.cons (.refl _) (.cons (.refl _) .nil)) (.cons (.cons (.refl _) (.cons (.refl _) (.cons (.zero _ _) (.cons (.zeroT _ _ _) .nil)))) .nil) ?_)))))
  cases h
  exact To.done hΓ (by kernel_rfl)
 ·refine Wp.skip (To.thenN (Wp.block ?_))
  obtain ⟨o3,ho3,h⟩:=bind_of h
  refine kw [0,1,4,6] [4,6] [(0,.str a0),(1,vi r1),(4,.own 4 0),(6,.own 6 0)] [(4,26,[vi 0,.str [],.val (.slice none 0 0),.val (.slice none 0 0)]),(6,26,[vi 2,.str [],.val (.slice none 0 0),.val (.slice none 0 0)])] (Wp.pre (St.vacantB 6 3 4363 26 (good_E_api_Node _) (by decide) (by kernel_rfl) (L':=[(4,26,[vi 0,.str [],.val (.slice none 0 0),.val (.slice none 0 0)]),(6,26,[vi 2,.str [],.val (.slice none 0 0),.row 4363])]) (by kernel_rfl)) (kw [0,1,4,6] [4,6,4363] [(0,.str a0),(1,vi r1),(4,.own 4 0),(6,.own 6 0)] [(4,26,[vi 0,.str [],.val (.slice none 0 0),.val (.slice none 0 0)]),(6,26,[vi 2,.str [],.val (.slice none 0 0),.row 4363]),(4363,26,[rc12 []])] (Wp.weak (K':=[(0,.str a0),(1,vi r1),(4,.own 4 0),(6,.own 6 0)]) (L':=[(4,26,[vi 0,.str [],ls [],tn8 []]),(6,26,[vi 2,.str [],ls [],.row 4363]),(4363,26,[rc12 []])]) (.cons (.refl _) (.cons (.refl _) (.cons (.refl _) (.cons (.refl _) .nil)))) (.cons (.cons (.refl _) (.cons (.refl _) (.cons (.zero _ _) (.cons (.zeroT _ _ _) .nil)))) (.cons (.cons (.refl _) (.cons (.refl _) (.cons (.zero _ _) (.cons (.refl _) .nil)))) (.cons (.cons (.refl _) .nil) .nil))) (Wp.loopL (ok_ref09_row_l1 R_ref09_value hR_ref09_value n a0 n r1 zx7 (S_api_Node.mk 2 [] [] []) o3 ho3 (To.blockR (kt [4,5] [4,4243] [(4,.own 4 0),(5,vi o3.1)] [(4,26,qc14 4243 o3.2),(4243,26,[rc12 o3.2.f_Kids])] (To.pre (St.settle (ks:=[4243]) (kk:=[4,5]) (kl:=[4,4243]) (K':=[(4,.own 4 0),(5,vi o3.1)]) (L':=[(4,26,qc14 4243 o3.2),(4243,26,[rc15 o3.2.f_Kids])]) (by kernel_rfl)) (To.pre (St.sealB [4] (L':=[(4,26,qc16 o3.2),(4243,26,[rc15 o3.2.f_Kids])]) (by kernel_rfl)) (To.weak (K':=[(4,.own 4 0),(5,vi o3.1)]) (L':=[(4,26,qc9 o3.2),(4243,26,[rc15 o3.2.f_Kids])]) (.cons (.refl _) (.cons (.refl _) .nil)) (.cons (.cons (.refl _) (.cons (.refl _) (.cons (.refl _) (.cons (.close _ _ _ _) .nil)))) (.cons (.cons (.refl _) .nil) .nil)) ?_))))))))))
  cases h
  exact To.done hΓ (by kernel_rfl)
def ref09_mark (a0:Int):Bool :=
 lett ((bif (bif (bif (bif (a0 == 44) then true else (a0 == 91)) then true else (a0 == 93)) then true else (a0 == 123)) then true else (a0 == 125)):Bool) fun x1 =>
 x1
theorem ok_ref09_mark (a0:Int) (r:Bool) (h:ref09_mark a0 = r):CallsX Tryz.prog 153 [.val (.int .u8 a0)] (vb r):=by
 unfold ref09_mark at h
 refine xo Tryz.f153 rfl fun F0 w0 _=>?_
 refine Wp.seq (rg [0] [] [(0,.val (.int .u8 a0))] [] (To.thenN (Wp.seq ?_)))
 obtain ⟨x1,hx1,h⟩:=lett_of h
 refine rg [2] [] [(2,vb (bif (bif (bif (bif (a0 == 44) then true else (a0 == 91)) then true else (a0 == 93)) then true else (a0 == 123)) then true else (a0 == 125)))] [] (To.eq (K':=[(2,vb x1)]) (L':=[]) (by cases hx1; rfl) (by cases hx1; rfl) (To.thenN (Wp.ret ?_)))
 cases h
 exact To.done hΓ (by kernel_rfl)
def ref09_plain_l1 (n:Nat) (v0:List UInt8):Nat → Int → Option (Sum (Int) (Int))
 | 0,_=>none
 | k + 1,v1=>if (decide (v1 < (List.length v0:Int))) = true then (if (decide (0 ≤ v1 ∧ v1 < (List.length v0:Int))) = true then (if (ref09_mark (((v0)[Int.toNat v1]?.getD 0).toNat:Int)) = true then (some (.inr v1))
 else (if (decide (0 ≤ v1 ∧ v1 < (List.length v0:Int))) = true then (if ((!((((IntKind.wrap .i64 (v1 + 1)) == (List.length v0:Int)) == false) && (((((v0)[Int.toNat v1]?.getD 0).toNat:Int) == 58) == true)) || decide (0 ≤ (IntKind.wrap .i64 (v1 + 1)) ∧ (IntKind.wrap .i64 (v1 + 1)) < (List.length v0:Int)))) = true then (if ((!(((bif ((IntKind.wrap .i64 (v1 + 1)) == (List.length v0:Int)) then true else ((((v0)[Int.toNat (IntKind.wrap .i64 (v1 + 1))]?.getD 0).toNat:Int) == 32)) == false) && (((((v0)[Int.toNat v1]?.getD 0).toNat:Int) == 58) == true)) || decide (0 ≤ (IntKind.wrap .i64 (v1 + 1)) ∧ (IntKind.wrap .i64 (v1 + 1)) < (List.length v0:Int)))) = true then (lett (ref09_mark (((v0)[Int.toNat (IntKind.wrap .i64 (v1 + 1))]?.getD 0).toNat:Int)) fun r1 =>
 lett ((bif ((((v0)[Int.toNat v1]?.getD 0).toNat:Int) == 58) then (bif (bif ((IntKind.wrap .i64 (v1 + 1)) == (List.length v0:Int)) then true else ((((v0)[Int.toNat (IntKind.wrap .i64 (v1 + 1))]?.getD 0).toNat:Int) == 32)) then true else r1) else false):Bool) fun x2 =>
 if x2 = true then (some (.inr v1))
 else (ref09_plain_l1 n v0 k (IntKind.wrap .i64 (v1 + 1)))) else none) else none) else none)) else none)
 else (some (.inl v1))
theorem ok_ref09_plain_l1 (n:Nat) (v0:List UInt8) {F0:Fz} {w0:Pt Tryz.prog} {Q:Exit → Act → World → Prop} (k:Nat):∀ (v1:Int) (o:Sum (Int) (Int)),ref09_plain_l1 n v0 k v1 = some o → (Sum.elim (fun s=>To 43 F0 w0 [(1,vi s)] [] (.exit 0) Q) (fun s=>To 43 F0 w0 [(4,vi s)] [] .ret Q)) o → WL Tryz.prog 43 F0 w0 [(0,.str v0),(1,vi v1)] [] (cI (cI (cA (cB (cF Tryz.f134))))) Q:=by
 induction k with
 | zero=>intro v1 o h; cases h
 | succ k ih =>
  intro v1 o h hQ
  rw [ref09_plain_l1] at h
  refine WL.round (Wp.seq (Wp.seq (rg [0,1,8] [] [(0,.str v0),(1,vi v1),(8,vb (ex9 v1 v0))] [] (To.thenN (cn h (fun h=>?_) (fun h=>?_))))))
  ·refine Wp.skip (To.thenN (Wp.block (Wp.seq (Wp.seq ?_))))
   obtain ⟨hc6,h⟩:=chk_of h
   refine rr [] [(3,vb (ref09_mark (ex6 v0 v1)))] [] [0,1,12] [] [(0,.str v0),(1,vi v1),(12,vb (ref09_mark (ex6 v0 v1)))] [] [_,_] (AllP.cons hc6 (AllP.cons (c1 (ok_ref09_mark (ex6 v0 v1) _ rfl)) AllP.nil)) (To.thenN (cn h (fun h=>?_) (fun h=>?_)))
   ·refine Wp.seq (rg [4] [] [(4,vi v1)] [] (To.thenN (Wp.ret (To.thenR (To.blockR (To.thenR ?_))))))
    cases h
    exact hQ
   ·refine Wp.skip (To.thenN (Wp.seq (Wp.seq ?_)))
    obtain ⟨hc3,h⟩:=chk_of h
    obtain ⟨hc4,h⟩:=chk_of h
    obtain ⟨hc5,h⟩:=chk_of h
    obtain ⟨r1,hr1,h⟩:=lett_of h
    obtain ⟨x2,hx2,h⟩:=lett_of h
    refine rr [] [(22,vb r1)] [] [0,1,38] [] [(0,.str v0),(1,vi v1),(38,vb (bif ((ex6 v0 v1) == 58) then (bif (ex81 v1 v0) then true else r1) else false))] [] [_,_,_,((((ex81 v1 v0) == false) && (((ex6 v0 v1) == 58) == true)) = true → CX Tryz.prog 153 [.val (.int .u8 ((ex7 v0 v1).toNat:Int))] (vb r1))] (AllP.cons hc3 (AllP.cons hc4 (AllP.cons hc5 (AllP.cons (fun _=>cx (ok_ref09_mark ((ex7 v0 v1).toNat:Int) _ hr1)) AllP.nil)))) (To.eq (K':=[(0,.str v0),(1,vi v1),(38,vb x2)]) (L':=[]) (by cases hx2; rfl) (by cases hx2; rfl) (To.thenN (cn h (fun h=>?_) (fun h=>?_))))
    ·refine Wp.seq (rg [4] [] [(4,vi v1)] [] (To.thenN (Wp.ret (To.thenR (To.blockR (To.thenR ?_))))))
     cases h
     exact hQ
    ·refine Wp.skip (To.thenN (rg [0,1] [] [(0,.str v0),(ex11 v1)] [] (To.blockN (To.again ?_))))
     exact ih (IntKind.wrap .i64 (v1 + 1)) _ h hQ
  ·refine Wp.exit (To.thenX (To.thenX (kt [1] [] [(1,vi v1)] [] ?_)))
   cases h
   exact hQ
def ref09_plain (n:Nat) (a0:List UInt8) (a1:Int):Option (Int) :=
 (ref09_plain_l1 n a0 n a1).bind fun o1 =>
 (Sum.elim (fun o1=>some o1) (fun o1=>some o1)) o1
theorem ok_ref09_plain (n:Nat) (a0:List UInt8) (a1:Int) (r:Int) (h:ref09_plain n a0 a1 = some r):CallsX Tryz.prog 134 [.str a0,vi a1] (vi r):=by
 unfold ref09_plain at h
 refine xo Tryz.f134 rfl fun F0 w0 _=>?_
 refine Wp.seq (rg [0,1] [] [(0,.str a0),(1,vi a1)] [] (To.thenN (Wp.seq (Wp.block ?_))))
 obtain ⟨o1,ho1,h⟩:=bind_of h
 refine kw [0,1] [] [(0,.str a0),(1,vi a1)] [] (Wp.loopL (ok_ref09_plain_l1 n a0 n a1 o1 ho1 ?_))
 rcases o1 with o1 | o1
 ·replace h:=sum_l h
  refine To.blockX (To.thenN (Wp.seq (rg [4] [] [(4,vi o1)] [] (To.thenN (Wp.ret ?_)))))
  cases h
  exact To.done hΓ (by kernel_rfl)
 ·replace h:=sum_r h
  refine To.blockR (To.thenR ?_)
  cases h
  exact To.done hΓ (by kernel_rfl)
def ref09_trimmed_l1 (n:Nat):Nat → (List UInt8) → Option ((List UInt8))
 | 0,_=>none
 | k + 1,v0=>if ((!((decide ((List.length v0:Int) > 0)) == true) || decide (0 ≤ (IntKind.wrap .i64 ((List.length v0:Int) - 1)) ∧ (IntKind.wrap .i64 ((List.length v0:Int) - 1)) < (List.length v0:Int)))) = true then (lett ((bif (decide ((List.length v0:Int) > 0)) then ((((v0)[Int.toNat (IntKind.wrap .i64 ((List.length v0:Int) - 1))]?.getD 0).toNat:Int) == 32) else false):Bool) fun x1 =>
 if x1 = true then (if (decide (0 ≤ (IntKind.wrap .i64 ((List.length v0:Int) - 1)) ∧ (IntKind.wrap .i64 ((List.length v0:Int) - 1)) ≤ (List.length v0:Int))) = true then (ref09_trimmed_l1 n k (List.take (Int.toNat (IntKind.wrap .i64 ((List.length v0:Int) - 1))) v0)) else none)
 else some v0) else none
theorem ok_ref09_trimmed_l1 (n:Nat) {F0:Fz} {w0:Pt Tryz.prog} {Q:Exit → Act → World → Prop} (k:Nat):∀ (v0:List UInt8) (o:(List UInt8)),ref09_trimmed_l1 n k v0 = some o → To 20 F0 w0 [(0,.str o)] [] (.exit 0) Q → WL Tryz.prog 20 F0 w0 [(0,.str v0)] [] (cI (cI (cA (cB (cF Tryz.f135))))) Q:=by
 induction k with
 | zero=>intro v0 o h; cases h
 | succ k ih =>
  intro v0 o h hQ
  rw [ref09_trimmed_l1] at h
  refine WL.round (Wp.seq (Wp.seq ?_))
  obtain ⟨hc3,h⟩:=chk_of h
  obtain ⟨x1,hx1,h⟩:=lett_of h
  refine r0 [0,13] [] [(0,.str v0),(13,vb (bif (ex62 v0) then (ex92 v0) else false))] [] (AllP.cons hc3 AllP.nil) (To.eq (K':=[(0,.str v0),(13,vb x1)]) (L':=[]) (by cases hx1; rfl) (by cases hx1; rfl) (To.thenN (cn h (fun h=>?_) (fun h=>?_))))
  ·refine Wp.skip (To.thenN (Wp.block ?_))
   obtain ⟨hc2,h⟩:=chk_of h
   refine r0 [0] [] [(0,.str (ex93 v0))] [] (AllP.cons hc2 AllP.nil) (To.blockN (To.again ?_))
   exact ih (ex93 v0) _ h hQ
  ·refine Wp.exit (To.thenX (To.thenX (kt [0] [] [(0,.str v0)] [] ?_)))
   cases h
   exact hQ
def ref09_trimmed (n:Nat) (a0:List UInt8):Option ((List UInt8)) :=
 (ref09_trimmed_l1 n n a0).bind fun o1 =>
 some o1
theorem ok_ref09_trimmed (n:Nat) (a0:List UInt8) (r:(List UInt8)) (h:ref09_trimmed n a0 = some r):CallsX Tryz.prog 135 [.str a0] (.str r):=by
 unfold ref09_trimmed at h
 refine xo Tryz.f135 rfl fun F0 w0 _=>?_
 refine Wp.seq (rg [0] [] [(0,.str a0)] [] (To.thenN (Wp.seq (Wp.block ?_))))
 obtain ⟨o1,ho1,h⟩:=bind_of h
 refine kw [0] [] [(0,.str a0)] [] (Wp.loopL (ok_ref09_trimmed_l1 n n a0 o1 ho1 (To.blockX (To.thenN (Wp.seq (rg [2] [] [(2,.str o1)] [] (To.thenN (Wp.ret ?_))))))))
 cases h
 exact To.done hΓ (by kernel_rfl)
def ref06_Row_l1 (n:Nat) (v0:List UInt8):Nat → Int → Option (Sum (Unit) (Bool))
 | 0,_=>none
 | k + 1,v3=>if (decide (v3 < (List.length v0:Int))) = true then (if (decide (0 ≤ v3 ∧ v3 < (List.length v0:Int))) = true then ((ref06_one n (((v0)[Int.toNat v3]?.getD 0).toNat:Int) [44,91,93,123,125]).bind fun r1 =>
 if r1 = true then (some (.inr false))
 else (ref06_Row_l1 n v0 k (IntKind.wrap .i64 (v3 + 1)))) else none)
 else (some (.inl ()))
theorem ok_ref06_Row_l1 (n:Nat) (v0:List UInt8) {F0:Fz} {w0:Pt Tryz.prog} {Q:Exit → Act → World → Prop} (k:Nat):∀ (v3:Int) (o:Sum (Unit) (Bool)),ref06_Row_l1 n v0 k v3 = some o → (Sum.elim (fun s=>To 16 F0 w0 [(0,.str v0)] [] (.exit 0) Q) (fun s=>To 16 F0 w0 [(2,vb s)] [] .ret Q)) o → WL Tryz.prog 16 F0 w0 [(0,.str v0),(3,vi v3)] [] (cI (cI (cB (cA (cB (cF Tryz.f118)))))) Q:=by
 induction k with
 | zero=>intro v3 o h; cases h
 | succ k ih =>
  intro v3 o h hQ
  rw [ref06_Row_l1] at h
  refine WL.round (Wp.seq (Wp.seq (rg [0,3,7] [] [(0,.str v0),(3,vi v3),(7,vb (ex9 v3 v0))] [] (To.thenN (cn h (fun h=>?_) (fun h=>?_))))))
  ·refine Wp.skip (To.thenN (Wp.seq (Wp.block (Wp.seq ?_))))
   obtain ⟨hc2,h⟩:=chk_of h
   obtain ⟨r1,hr1,h⟩:=bind_of h
   refine rr [] [(3,vb r1)] [] [0,3,13] [] [(0,.str v0),(3,vi v3),(13,vb r1)] [] [_,_] (AllP.cons hc2 (AllP.cons (c1 (ok_ref06_one n (ex6 v0 v3) [44,91,93,123,125] _ hr1)) AllP.nil)) (To.thenN (cn h (fun h=>?_) (fun h=>?_)))
   ·refine Wp.seq (rg [2] [] [(2,vb false)] [] (To.thenN (Wp.ret (To.blockR (To.thenR (To.thenR ?_))))))
    cases h
    exact hQ
   ·refine Wp.skip (To.blockN (To.thenN (rg [0,3] [] [(0,.str v0),(3,vi (IntKind.wrap .i64 (v3 + 1)))] [] (kt [0,3] [] [(0,.str v0),(3,vi (IntKind.wrap .i64 (v3 + 1)))] [] (To.again ?_)))))
    exact ih (IntKind.wrap .i64 (v3 + 1)) _ h hQ
  ·refine Wp.exit (To.thenX (To.thenX (kt [0] [] [(0,.str v0)] [] ?_)))
   cases h
   exact hQ
def ref06_Row (n:Nat) (a0:List UInt8):Option (Bool) :=
 (ref06_Row_l1 n a0 n 0).bind fun o1 =>
 (Sum.elim (fun o1=>(ref06_Plain n a0).bind fun r2 =>
 some r2) (fun o1=>some o1)) o1
theorem ok_ref06_Row (n:Nat) (a0:List UInt8) (r:Bool) (h:ref06_Row n a0 = some r):CallsX Tryz.prog 118 [.str a0] (vb r):=by
 unfold ref06_Row at h
 refine xo Tryz.f118 rfl fun F0 w0 _=>?_
 refine Wp.seq (rg [0] [] [(0,.str a0)] [] (To.thenN (Wp.seq (Wp.seq (rg [0,3] [] [(0,.str a0),(3,vi 0)] [] (To.thenN (Wp.block ?_)))))))
 obtain ⟨o1,ho1,h⟩:=bind_of h
 refine kw [0,3] [] [(0,.str a0),(3,vi 0)] [] (Wp.loopL (ok_ref06_Row_l1 n a0 n 0 o1 ho1 ?_))
 rcases o1 with o1 | o1
 ·replace h:=sum_l h
  refine To.blockX (To.thenN (Wp.seq ?_))
  obtain ⟨r2,hr2,h⟩:=bind_of h
  refine rc [] 1 [2] [] [(2,vb r2)] [] (ok_ref06_Plain n a0 _ hr2) (To.thenN (Wp.ret ?_))
  cases h
  exact To.done hΓ (by kernel_rfl)
 ·replace h:=sum_r h
  refine To.blockR (To.thenR ?_)
  cases h
  exact To.done hΓ (by kernel_rfl)
def ref09_key (n:Nat) (a0:List UInt8) (a1:Int):Option ((List UInt8) × Int) :=
 (ref09_blanks n a0 a1).bind fun r1 =>
 (ref09_is n a0 r1 34).bind fun r2 =>
 ((if (r2 == false) = true then ref09_is n a0 r1 39 else some false)).bind fun r3 =>
 if (bif r2 then true else r3) = true then ((ref06_Scan n a0 r1).bind fun r4 =>
 if (r4.2.2 != 0) = true then (some ([],(-1)))
 else ((ref09_blanks n a0 r4.2.1).bind fun r5 =>
 (ref09_is n a0 r5 58).bind fun r6 =>
 if (!r6) = true then (some ([],(-1)))
 else (some (r4.1,(IntKind.wrap .i64 (r5 + 1))))))
 else ((ref09_plain n a0 r1).bind fun r7 =>
 if (decide (0 ≤ r7 ∧ r7 ≤ (List.length a0:Int))) = true then (if (decide (0 ≤ r1 ∧ r1 ≤ r7)) = true then ((ref09_trimmed n (List.take (Int.toNat r7 - Int.toNat r1) (List.drop (Int.toNat r1) a0))).bind fun r8 =>
 (ref06_Row n r8).bind fun r9 =>
 ((if ((!r9) == false) = true then ref09_is n a0 r7 58 else some false)).bind fun r10 =>
 if (bif (!r9) then true else (!r10)) = true then (some ([],(-1)))
 else (some (r8,(IntKind.wrap .i64 (r7 + 1))))) else none) else none)
theorem ok_ref09_key (n:Nat) (a0:List UInt8) (a1:Int) (r:(List UInt8) × Int) (h:ref09_key n a0 a1 = some r):CallsX Tryz.prog 152 [.str a0,vi a1] (.tup [.str r.1,vi r.2]):=by
 unfold ref09_key at h
 refine xo Tryz.f152 rfl fun F0 w0 _=>?_
 refine Wp.seq (rg [0,1] [] [(0,.str a0),(1,vi a1)] [] (To.thenN (Wp.seq ?_)))
 obtain ⟨r1,hr1,h⟩:=bind_of h
 refine rc [] 2 [0,1] [] [(0,.str a0),(1,vi r1)] [] (ok_ref09_blanks n a0 a1 _ hr1) (To.thenN (Wp.seq (Wp.seq ?_)))
 obtain ⟨r2,hr2,h⟩:=bind_of h
 obtain ⟨r3,hr3,h⟩:=bind_of h
 refine rr [] [(2,vb r2),(6,vb r3)] [] [0,1,21] [] [(0,.str a0),(1,vi r1),(21,vb (bif r2 then true else r3))] [] [_,((r2 == false) = true → CX Tryz.prog 151 [.str a0,vi r1,.val (.int .u8 39)] (vb r3))] (AllP.cons (c1 (ok_ref09_is n a0 r1 34 _ hr2)) (AllP.cons (fun hg=>cx (ok_ref09_is n a0 r1 39 _ (if_t hg hr3))) AllP.nil)) (To.thenN (cn h (fun h=>?_) (fun h=>?_)))
 ·refine Wp.seq ?_
  obtain ⟨r4,hr4,h⟩:=bind_of h
  refine rc [] 2 [0,6,7,8] [] [(0,.str a0),(6,.str r4.1),(7,vi r4.2.1),(8,vi r4.2.2)] [] (ok_ref06_Scan n a0 r1 _ hr4) (To.thenN (Wp.seq (Wp.seq (rg [0,6,7,30] [] [(0,.str a0),(6,.str r4.1),(7,vi r4.2.1),(30,vb (r4.2.2 != 0))] [] (To.thenN (cn h (fun h=>?_) (fun h=>?_)))))))
  ·refine Wp.seq (rg [4,5] [] [(4,.str []),(5,vi (-1))] [] (To.thenN (Wp.ret (To.thenR (To.thenR ?_)))))
   cases h
   exact To.done hΓ (by kernel_rfl)
  ·refine Wp.skip (To.thenN (Wp.seq ?_))
   obtain ⟨r5,hr5,h⟩:=bind_of h
   refine rc [] 2 [0,6,7] [] [(0,.str a0),(6,.str r4.1),(7,vi r5)] [] (ok_ref09_blanks n a0 r4.2.1 _ hr5) (To.thenN (Wp.seq (Wp.seq ?_)))
   obtain ⟨r6,hr6,h⟩:=bind_of h
   refine rc [] 2 [6,7,37] [] [(6,.str r4.1),(7,vi r5),(37,vb (!r6))] [] (ok_ref09_is n a0 r5 58 _ hr6) (To.thenN (cn h (fun h=>?_) (fun h=>?_)))
   ·refine Wp.seq (rg [4,5] [] [(4,.str []),(5,vi (-1))] [] (To.thenN (Wp.ret (To.thenR (To.thenR ?_)))))
    cases h
    exact To.done hΓ (by kernel_rfl)
   ·refine Wp.skip (To.thenN (Wp.seq (rg [4,5] [] [(4,.str r4.1),(5,vi (IntKind.wrap .i64 (r5 + 1)))] [] (To.thenN (Wp.ret (To.thenR ?_))))))
    cases h
    exact To.done hΓ (by kernel_rfl)
 ·refine Wp.skip (To.thenN (Wp.seq ?_))
  obtain ⟨r7,hr7,h⟩:=bind_of h
  refine rc [] 2 [0,1,9] [] [(0,.str a0),(1,vi r1),(9,vi r7)] [] (ok_ref09_plain n a0 r1 _ hr7) (To.thenN (Wp.seq ?_))
  obtain ⟨hc11,h⟩:=chk_of h
  obtain ⟨hc12,h⟩:=chk_of h
  obtain ⟨r8,hr8,h⟩:=bind_of h
  refine rr [] [(4,.str r8)] [] [0,9,10] [] [(0,.str a0),(9,vi r7),(10,.str r8)] [] [_,_,_] (AllP.cons hc11 (AllP.cons hc12 (AllP.cons (c1 (ok_ref09_trimmed n (List.take (Int.toNat r7 - Int.toNat r1) (List.drop (Int.toNat r1) a0)) _ hr8)) AllP.nil))) (To.thenN (Wp.seq (Wp.seq ?_)))
  obtain ⟨r9,hr9,h⟩:=bind_of h
  obtain ⟨r10,hr10,h⟩:=bind_of h
  refine rr [] [(1,vb r9),(6,vb r10)] [] [9,10,57] [] [(9,vi r7),(10,.str r8),(57,vb (bif (!r9) then true else (!r10)))] [] [_,(((!r9) == false) = true → CX Tryz.prog 151 [.str a0,vi r7,.val (.int .u8 58)] (vb r10))] (AllP.cons (c1 (ok_ref06_Row n r8 _ hr9)) (AllP.cons (fun hg=>cx (ok_ref09_is n a0 r7 58 _ (if_t hg hr10))) AllP.nil)) (To.thenN (cn h (fun h=>?_) (fun h=>?_)))
  ·refine Wp.seq (rg [4,5] [] [(4,.str []),(5,vi (-1))] [] (To.thenN (Wp.ret (To.thenR ?_))))
   cases h
   exact To.done hΓ (by kernel_rfl)
  ·refine Wp.skip (To.thenN (Wp.seq (rg [4,5] [] [(4,.str r8),(5,vi (IntKind.wrap .i64 (r7 + 1)))] [] (To.thenN (Wp.ret ?_)))))
   cases h
   exact To.done hΓ (by kernel_rfl)
def ref09_pairs_l1 (R_ref09_value:(List UInt8) → Int → Option (S_api_Node × Int)) (n:Nat) (v0:List UInt8):Nat → Int → S_api_Node → S_api_Node → Option (Int × S_api_Node)
 | 0,_,_,_=>none
 | k + 1,v1,b4,b6=>(ref09_key n v0 v1).bind fun r3 =>
 ((if ((decide (r3.2 < 0)) == false) = true then ref02_In n b6.f_Keys r3.1 else some false)).bind fun r4 =>
 if (bif (decide (r3.2 < 0)) then true else r4) = true then (some ((-1),b6))
 else ((R_ref09_value v0 r3.2).bind fun r5 =>
 if (decide (r5.2 < 0)) = true then (some ((-1),b6))
 else (if (decide ((List.length b6.f_Keys + List.length ([r3.1]:List (List UInt8))) * (16 + 1) ≤ limit)) = true then (if (decide ((List.length b6.f_Kids + List.length ([r5.1]:List (S_api_Node))) * (72 + 1) ≤ limit)) = true then ((ref09_blanks n v0 r5.2).bind fun r6 =>
 (ref09_is n v0 r6 125).bind fun r7 =>
 if r7 = true then (some ((IntKind.wrap .i64 (r6 + 1)),(S_api_Node.mk b6.f_Kind b6.f_Text (b6.f_Keys ++ ([r3.1]:List (List UInt8))) (b6.f_Kids ++ ([r5.1]:List (S_api_Node))))))
 else ((ref09_is n v0 r6 44).bind fun r8 =>
 if (!r8) = true then (some ((-1),(S_api_Node.mk b6.f_Kind b6.f_Text (b6.f_Keys ++ ([r3.1]:List (List UInt8))) (b6.f_Kids ++ ([r5.1]:List (S_api_Node))))))
 else (ref09_pairs_l1 R_ref09_value n v0 k (IntKind.wrap .i64 (r6 + 1)) b4 (S_api_Node.mk b6.f_Kind b6.f_Text (b6.f_Keys ++ ([r3.1]:List (List UInt8))) (b6.f_Kids ++ ([r5.1]:List (S_api_Node))))))) else none) else none))
end Go.Proofs.YtefojkdckfidcaaGreatDoor.M
