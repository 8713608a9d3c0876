import Derived.Test.YtaecmkldkljioaaGreatQM35b
set_option linter.all false
namespace Go.Proofs.YtaecmkldkljioaaGreat.M
open Go.RowKit Go.Proofs.YtaecmkldkljioaaGreat.RX
set_option maxRecDepth 100000
abbrev zx22:S_ref33_Store:=S_ref33_Store.mk [] [] [] 0
abbrev rc23 (l:List (S_ref32_Box)):D:=.rowc false (α:=S_ref32_Box) Z_ref32_Box E_ref32_Box l
abbrev rc24 (l:List (S_ref32_Box)):D:=.rowc true (α:=S_ref32_Box) Z_ref32_Box E_ref32_Box l
abbrev ex17 (x0:S_ref33_Store):=(([]:List (S_ref32_Box)) ++ x0.f_Boxes)
abbrev ex18 (x0:S_ref33_Store):=(IntKind.wrap .i64 (x0.f_Last + 1))
theorem ok_ref33_Store_make (n:Nat) (a0:S_ref33_Store) (a1:S_api_Spec) (r:S_ref33_Store × Int × Int) (h:ref33_Store_make n a0 a1 = some r):CallsX Tryz.prog 58 [.agg (qc20 a0),.agg (qc7 a1)] (.tup [.agg (qc20 r.1),vi r.2.1,vi r.2.2]):=by
 unfold ref33_Store_make at h
 refine xo Tryz.f58 rfl fun F0 w0 _=>?_
 refine Wp.seq (rg [2,3,4] [2,3,4] [(2,.own 2 0),(3,.own 3 0),(4,.own 4 0)] [(2,30,qc20 a0),(3,38,(E_api_Spec a1)),(4,30,[.val (.slice none 0 0),.val (.slice none 0 0),.val (.slice none 0 0),vi 0])] (To.thenN (Wp.seq (Wp.seq (rg [2,3,4,20] [2,3,4] [(2,.own 2 0),(3,.own 3 0),(4,.own 4 0),(20,vb (bif (decide ((List.length a1.f_Name:Int) < 1)) then true else (decide ((List.length a1.f_Name:Int) > 128))))] [(2,30,qc20 a0),(3,38,(E_api_Spec a1)),(4,30,[.val (.slice none 0 0),.val (.slice none 0 0),.val (.slice none 0 0),vi 0])] (To.thenN (cn h (fun h=>?_) (fun h=>?_))))))))
 ·refine Wp.seq (rg [4,5,6] [4] [(4,.own 4 0),(5,vi 0),(6,vi 2)] [(4,30,qc20 a0)] (To.thenN (Wp.ret (To.thenR ?_))))
  cases h
  exact To.done hΓ (by kernel_rfl)
 ·refine Wp.skip (To.thenN (Wp.seq (Wp.seq (rg [2,3,4,7] [2,3,4] [(2,.own 2 0),(3,.own 3 0),(4,.own 4 0),(7,vi 0)] [(2,30,qc20 a0),(3,38,(E_api_Spec a1)),(4,30,[.val (.slice none 0 0),.val (.slice none 0 0),.val (.slice none 0 0),vi 0])] (To.thenN (Wp.block ?_))))))
  obtain ⟨o1,ho1,h⟩:=bind_of h
  refine kw [2,3,4,7] [2,3,4] [(2,.own 2 0),(3,.own 3 0),(4,.own 4 0),(7,vi 0)] [(2,30,qc20 a0),(3,38,(E_api_Spec a1)),(4,30,[.val (.slice none 0 0),.val (.slice none 0 0),.val (.slice none 0 0),vi 0])] (Wp.weak (K':=[(2,.own 2 0),(3,.own 3 0),(4,.own 4 0),(7,vi 0)]) (L':=[(2,30,qc20 a0),(3,38,(E_api_Spec a1)),(4,30,[rs19 [],rs16 [],rs16 [],vi 0])]) (.cons (.refl _) (.cons (.refl _) (.cons (.refl _) (.cons (.refl _) .nil)))) (.cons (.cons (.refl _) (.cons (.refl _) (.cons (.refl _) (.cons (.refl _) .nil)))) (.cons (.cons (.refl _) (.cons (.refl _) (.cons (.refl _) (.cons (.refl _) (.cons (.refl _) (.cons (.refl _) (.cons (.refl _) (.cons (.refl _) (.cons (.refl _) (.cons (.refl _) (.cons (.refl _) (.cons (.refl _) (.cons (.refl _) .nil))))))))))))) (.cons (.cons (.zero _ _) (.cons (.zero _ _) (.cons (.zero _ _) (.cons (.refl _) .nil)))) .nil))) (Wp.loopL (ok_ref33_Store_make_l1 n a0 a1 n 0 zx22 o1 ho1 ?_)))
  rcases o1 with o1 | o1
  ·replace h:=sum_l h
   refine To.blockX (To.thenN (Wp.seq (Wp.seq (rg [2,3,4,8] [2,3,4] [(2,.own 2 0),(3,.own 3 0),(4,.own 4 0),(8,vi 0)] [(2,30,qc20 a0),(3,38,(E_api_Spec a1)),(4,30,qc20 o1)] (To.thenN (Wp.block ?_))))))
   obtain ⟨o2,ho2,h⟩:=bind_of h
   refine kw [2,3,4,8] [2,3,4] [(2,.own 2 0),(3,.own 3 0),(4,.own 4 0),(8,vi 0)] [(2,30,qc20 a0),(3,38,(E_api_Spec a1)),(4,30,qc20 o1)] (Wp.loopL (ok_ref33_Store_make_l2 n a0 a1 n 0 o1 o2 ho2 ?_))
   rcases o2 with o2 | o2
   ·replace h:=sum_l h
    refine To.blockX (To.thenN (Wp.seq (Wp.seq (rg [2,3,4,9] [2,3,4] [(2,.own 2 0),(3,.own 3 0),(4,.own 4 0),(9,vi 0)] [(2,30,qc20 a0),(3,38,(E_api_Spec a1)),(4,30,qc20 o2)] (To.thenN (Wp.block ?_))))))
    obtain ⟨o3,ho3,h⟩:=bind_of h
    refine kw [2,3,4,9] [2,3,4] [(2,.own 2 0),(3,.own 3 0),(4,.own 4 0),(9,vi 0)] [(2,30,qc20 a0),(3,38,(E_api_Spec a1)),(4,30,qc20 o2)] (Wp.loopL (ok_ref33_Store_make_l3 n a0 a1 n 0 o2 o3 ho3 ?_))
    rcases o3 with o3 | o3
    ·replace h:=sum_l h
     refine To.blockX (To.thenN (Wp.seq (Wp.seq (rg [2,3,4,77] [2,3,4] [(2,.own 2 0),(3,.own 3 0),(4,.own 4 0),(77,vb (decide ((ex15 a0) ≥ 64)))] [(2,30,qc20 a0),(3,38,(E_api_Spec a1)),(4,30,qc20 o3)] (To.thenN (cn h (fun h=>?_) (fun h=>?_)))))))
     ·refine Wp.seq (rg [4,5,6] [4] [(4,.own 4 0),(5,vi 0),(6,vi 14)] [(4,30,qc20 a0)] (To.thenN (Wp.ret (To.thenR ?_))))
      cases h
      exact To.done hΓ (by kernel_rfl)
     ·refine Wp.skip (To.thenN (Wp.seq (rg [2,3,4] [2,3,4] [(2,.own 2 0),(3,.own 3 0),(4,.own 4 0)] [(2,30,[rs19 a0.f_Boxes,rs16 a0.f_Nets,rs16 a0.f_Vols,vi (ex18 a0)]),(3,38,(E_api_Spec a1)),(4,30,qc20 o3)] (To.thenN (Wp.seq ?_)))))
      obtain ⟨hc6,h⟩:=chk_of h
      refine rr [] [(0,rs19 []),(3,rs19 (ex17 a0))] [] [2,3,4,10] [2,3,4,86] [(2,.own 2 0),(3,.own 3 0),(4,.own 4 0),(10,.row 86)] [(2,30,[rs19 a0.f_Boxes,rs16 a0.f_Nets,rs16 a0.f_Vols,vi (ex18 a0)]),(3,38,(E_api_Spec a1)),(4,30,qc20 o3),(86,132,[rc23 (ex17 a0)])] [(MkOb 25 [] 0 (rs19 []) ∧ GoodR (rs19 [])),_,(AppOb Z_ref32_Box E_ref32_Box ([]:List (S_ref32_Box)) (List.flatMap E_ref32_Box a0.f_Boxes) (List.length a0.f_Boxes) (rs19 (ex17 a0)) ∧ GoodR (rs19 (ex17 a0)))] (AllP.cons (mkOb (by kernel_rfl) rfl (by kernel_rfl) (good_E_ref32_Box _)) (AllP.cons hc6 (AllP.cons (appOb rfl rfl (good_E_ref32_Box _)) AllP.nil))) (To.thenN (Wp.seq ?_))
      obtain ⟨r4,hr4,h⟩:=lett_of h
      obtain ⟨hc5,h⟩:=chk_of h
      refine rr [] [(4,.agg (qc21 r4)),(5,rs19 [r4]),(6,rs19 ((ex17 a0) ++ ([r4]:List (S_ref32_Box))))] [] [2,4] [2,4,93] [(2,.own 2 0),(4,.own 4 0)] [(2,30,[.row 93,rs16 a0.f_Nets,rs16 a0.f_Vols,vi (ex18 a0)]),(4,30,qc20 o3),(93,132,[rc23 ((ex17 a0) ++ ([r4]:List (S_ref32_Box)))])] [_,(MkOb 25 (qc21 r4) 1 (rs19 [r4]) ∧ GoodR (rs19 [r4])),_,(AppOb Z_ref32_Box E_ref32_Box (ex17 a0) (List.flatMap E_ref32_Box ([r4]:List (S_ref32_Box))) (List.length ([r4]:List (S_ref32_Box))) (rs19 ((ex17 a0) ++ ([r4]:List (S_ref32_Box)))) ∧ GoodR (rs19 ((ex17 a0) ++ ([r4]:List (S_ref32_Box)))))] (AllP.cons (c1 (ok_ref32_New (ex18 a0) a1 _ hr4)) (AllP.cons (mkOb (by kernel_rfl) rfl (by kernel_rfl) (good_E_ref32_Box _)) (AllP.cons hc5 (AllP.cons (appOb rfl rfl (good_E_ref32_Box _)) AllP.nil)))) (To.thenN (Wp.seq (Wp.regionD hm hΓ [] [4,5,6] [4,93] (K':=[(4,.own 4 0),(5,vi (ex18 a0)),(6,vi 0)]) (L':=[(4,30,[.row 93,rs16 a0.f_Nets,rs16 a0.f_Vols,vi (ex18 a0)]),(93,132,[rc23 ((ex17 a0) ++ ([r4]:List (S_ref32_Box)))])]) (ob:=[]) (by kernel_rfl) AllP.nil (To.thenN (Wp.ret (kt [4,5,6] [4,93] [(4,.own 4 0),(5,vi (ex18 a0)),(6,vi 0)] [(4,30,[.row 93,rs16 a0.f_Nets,rs16 a0.f_Vols,vi (ex18 a0)]),(93,132,[rc23 ((ex17 a0) ++ ([r4]:List (S_ref32_Box)))])] (To.pre (St.settle (ks:=[93]) (kk:=[4,5,6]) (kl:=[4,93]) (K':=[(4,.own 4 0),(5,vi (ex18 a0)),(6,vi 0)]) (L':=[(4,30,[.row 93,rs16 a0.f_Nets,rs16 a0.f_Vols,vi (ex18 a0)]),(93,132,[rc24 ((ex17 a0) ++ ([r4]:List (S_ref32_Box)))])]) (by kernel_rfl)) (To.pre (St.sealB [4] (L':=[(4,30,[rs19 ((ex17 a0) ++ ([r4]:List (S_ref32_Box))),rs16 a0.f_Nets,rs16 a0.f_Vols,vi (ex18 a0)]),(93,132,[rc24 ((ex17 a0) ++ ([r4]:List (S_ref32_Box)))])]) (by kernel_rfl)) ?_))))))))
      cases h
      exact To.done hΓ (by kernel_rfl)
    ·replace h:=sum_r h
     refine To.blockR (To.thenR ?_)
     cases h
     exact To.done hΓ (by kernel_rfl)
   ·replace h:=sum_r h
    refine To.blockR (To.thenR ?_)
    cases h
    exact To.done hΓ (by kernel_rfl)
  ·replace h:=sum_r h
   refine To.blockR (To.thenR ?_)
   cases h
   exact To.done hΓ (by kernel_rfl)
def ref33_Find_l1 (n:Nat) (v1:Int) (b2:S_ref33_Store):Nat → Int → Option (Sum (Unit) (Int))
 | 0,_=>none
 | k + 1,v5=>if (decide (v5 < (List.length b2.f_Boxes:Int))) = true then (if (decide (0 ≤ v5 ∧ v5 < (List.length b2.f_Boxes:Int))) = true then (if ((((b2.f_Boxes)[Int.toNat v5]?.getD Z_ref32_Box).f_Id) == v1) = true then (some (.inr v5))
 else (ref33_Find_l1 n v1 b2 k (IntKind.wrap .i64 (v5 + 1)))) else none)
 else (some (.inl ()))
theorem ok_ref33_Find_l1 (n:Nat) (v1:Int) (b2:S_ref33_Store) {F0:Fz} {w0:Pt Tryz.prog} {Q:Exit → Act → World → Prop} (k:Nat):∀ (v5:Int) (o:Sum (Unit) (Int)),ref33_Find_l1 n v1 b2 k v5 = some o → (Sum.elim (fun s=>To 22 F0 w0 [] [] (.exit 0) Q) (fun s=>To 22 F0 w0 [(4,vi s)] [] .ret Q)) o → WL Tryz.prog 22 F0 w0 [(1,vi v1),(2,.own 2 0),(5,vi v5)] [(2,30,qc20 b2)] (cI (cI (cB (cA (cB (cF Tryz.f22)))))) Q:=by
 induction k with
 | zero=>intro v5 o h; cases h
 | succ k ih =>
  intro v5 o h hQ
  rw [ref33_Find_l1] at h
  refine WL.round (Wp.seq (Wp.seq (rg [1,2,5,10] [2] [(1,vi v1),(2,.own 2 0),(5,vi v5),(10,vb (decide (v5 < (ex15 b2))))] [(2,30,qc20 b2)] (To.thenN (cn h (fun h=>?_) (fun h=>?_))))))
  ·refine Wp.skip (To.thenN (Wp.seq (Wp.block (Wp.seq ?_))))
   obtain ⟨hc1,h⟩:=chk_of h
   refine r0 [1,2,5,20] [2] [(1,vi v1),(2,.own 2 0),(5,vi v5),(20,vb (((ex14 b2 v5).f_Id) == v1))] [(2,30,qc20 b2)] (AllP.cons hc1 AllP.nil) (To.thenN (cn h (fun h=>?_) (fun h=>?_)))
   ·refine Wp.seq (rg [4] [] [(4,vi v5)] [] (To.thenN (Wp.ret (To.blockR (To.thenR (To.thenR ?_))))))
    cases h
    exact hQ
   ·refine Wp.skip (To.blockN (To.thenN (rg [1,2,5] [2] [(1,vi v1),(2,.own 2 0),(ex2 v5)] [(2,30,qc20 b2)] (kt [1,2,5] [2] [(1,vi v1),(2,.own 2 0),(ex2 v5)] [(2,30,qc20 b2)] (To.again ?_)))))
    exact ih (IntKind.wrap .i64 (v5 + 1)) _ h hQ
  ·refine Wp.exit (To.thenX (To.thenX (kt [] [] [] [] ?_)))
   cases h
   exact hQ
def ref33_Find (n:Nat) (a0:S_ref33_Store) (a1:Int):Option (Int) :=
 (ref33_Find_l1 n a1 a0 n 0).bind fun o1 =>
 (Sum.elim (fun o1=>some (-1)) (fun o1=>some o1)) o1
theorem ok_ref33_Find (n:Nat) (a0:S_ref33_Store) (a1:Int) (r:Int) (h:ref33_Find n a0 a1 = some r):CallsX Tryz.prog 22 [.agg (qc20 a0),vi a1] (vi r):=by
 unfold ref33_Find at h
 refine xo Tryz.f22 rfl fun F0 w0 _=>?_
 refine Wp.seq (rg [1,2] [2] [(1,vi a1),(2,.own 2 0)] [(2,30,qc20 a0)] (To.thenN (Wp.seq (Wp.seq (rg [1,2,5] [2] [(1,vi a1),(2,.own 2 0),(5,vi 0)] [(2,30,qc20 a0)] (To.thenN (Wp.block ?_)))))))
 obtain ⟨o1,ho1,h⟩:=bind_of h
 refine kw [1,2,5] [2] [(1,vi a1),(2,.own 2 0),(5,vi 0)] [(2,30,qc20 a0)] (Wp.loopL (ok_ref33_Find_l1 n a1 a0 n 0 o1 ho1 ?_))
 rcases o1 with o1 | o1
 ·replace h:=sum_l h
  refine To.blockX (To.thenN (Wp.seq (rg [4] [] [(4,vi (-1))] [] (To.thenN (Wp.ret ?_)))))
  cases h
  exact To.done hΓ (by kernel_rfl)
 ·replace h:=sum_r h
  refine To.blockR (To.thenR ?_)
  cases h
  exact To.done hΓ (by kernel_rfl)
def ref30_Right (a0:S_api_Check):Bool :=
 lett ((bif (bif ((List.length a0.f_Test:Int) == 0) then true else (decide (a0.f_Every < 1))) then true else (decide (a0.f_Every > 1099511627776))):Bool) fun x1 =>
 if x1 = true then false
 else (lett ((bif (bif (bif (decide (a0.f_Start ≥ 0)) then (decide (a0.f_Start ≤ 1099511627776)) else false) then (decide (a0.f_Retries ≥ 1)) else false) then (decide (a0.f_Retries ≤ 10)) else false):Bool) fun x2 =>
 x2)
theorem ok_ref30_Right (a0:S_api_Check) (r:Bool) (h:ref30_Right a0 = r):CallsX Tryz.prog 143 [.agg (qc11 a0)] (vb r):=by
 unfold ref30_Right at h
 refine xo Tryz.f143 rfl fun F0 w0 _=>?_
 refine Wp.seq (rg [1] [1] [(1,.own 1 0)] [(1,36,qc11 a0)] (To.thenN (Wp.seq (Wp.seq ?_))))
 obtain ⟨x1,hx1,h⟩:=lett_of h
 refine rg [1,16] [1] [(1,.own 1 0),(16,vb (bif (bif ((List.length a0.f_Test:Int) == 0) then true else (decide (a0.f_Every < 1))) then true else (decide (a0.f_Every > 1099511627776))))] [(1,36,qc11 a0)] (To.eq (K':=[(1,.own 1 0),(16,vb x1)]) (L':=[(1,36,qc11 a0)]) (by cases hx1; rfl) (by cases hx1; rfl) (To.thenN (cn h (fun h=>?_) (fun h=>?_))))
 ·refine Wp.seq (rg [2] [] [(2,vb false)] [] (To.thenN (Wp.ret (To.thenR ?_))))
  cases h
  exact To.done hΓ (by kernel_rfl)
 ·refine Wp.skip (To.thenN (Wp.seq ?_))
  obtain ⟨x2,hx2,h⟩:=lett_of h
  refine rg [2] [] [(2,vb (bif (bif (bif (decide (a0.f_Start ≥ 0)) then (decide (a0.f_Start ≤ 1099511627776)) else false) then (decide (a0.f_Retries ≥ 1)) else false) then (decide (a0.f_Retries ≤ 10)) else false))] [] (To.eq (K':=[(2,vb x2)]) (L':=[]) (by cases hx2; rfl) (by cases hx2; rfl) (To.thenN (Wp.ret ?_)))
  cases h
  exact To.done hΓ (by kernel_rfl)
def ref30_Begin (a0:S_api_Check) (a1:Int):S_probe_State :=
 if (!(ref30_Right a0)) = true then ((S_probe_State.mk 0 0 0 0))
 else ((S_probe_State.mk 1 0 a1 (IntKind.wrap .i64 (a1 + a0.f_Every))))
theorem ok_ref30_Begin (a0:S_api_Check) (a1:Int) (r:S_probe_State) (h:ref30_Begin a0 a1 = r):CallsX Tryz.prog 122 [.agg (qc11 a0),vi a1] (.agg (qc12 r)):=by
 unfold ref30_Begin at h
 refine xo Tryz.f122 rfl fun F0 w0 _=>?_
 refine Wp.seq (rg [1,2,4] [2,4] [(1,vi a1),(2,.own 2 0),(4,.own 4 0)] [(2,36,qc11 a0),(4,130,[vi 0,vi 0,vi 0,vi 0])] (To.thenN (Wp.seq (Wp.seq (rc [] 1 [1,2,4,7] [2,4] [(1,vi a1),(2,.own 2 0),(4,.own 4 0),(7,vb (!(ref30_Right a0)))] [(2,36,qc11 a0),(4,130,[vi 0,vi 0,vi 0,vi 0])] (ok_ref30_Right a0 _ rfl) (To.thenN (cn h (fun h=>?_) (fun h=>?_))))))))
 ·refine Wp.seq (rg [4] [4] [(4,.own 4 0)] [(4,130,[vi 0,vi 0,vi 0,vi 0])] (To.thenN (Wp.ret (To.thenR ?_))))
  cases h
  exact To.done hΓ (by kernel_rfl)
 ·refine Wp.skip (To.thenN (Wp.seq (rg [4] [4] [(4,.own 4 0)] [(4,130,[vi 1,vi 0,vi a1,vi (IntKind.wrap .i64 (a1 + a0.f_Every))])] (To.thenN (Wp.ret ?_)))))
  cases h
  exact To.done hΓ (by kernel_rfl)
def ref32_Start (a0:S_ref32_Box) (a1:Int):S_ref32_Box × Int :=
 if (a0.f_State == 2) = true then ((a0,13))
 else (lett (ref30_Begin a0.f_Spec.f_Health a1) fun r1 =>
 ((S_ref32_Box.mk a0.f_Spec a0.f_Id 2 0 (IntKind.wrap .i64 (a0.f_Runs + 1)) 0 (-1) false a0.f_Sick r1),0))
abbrev ex19 (x0:S_ref32_Box):=(IntKind.wrap .i64 (x0.f_Runs + 1))
theorem ok_ref32_Start (a0:S_ref32_Box) (a1:Int) (r:S_ref32_Box × Int) (h:ref32_Start a0 a1 = r):CallsX Tryz.prog 91 [.agg (qc21 a0),vi a1] (.tup [.agg (qc21 r.1),vi r.2]):=by
 unfold ref32_Start at h
 refine xo Tryz.f91 rfl fun F0 w0 _=>?_
 refine Wp.seq (rg [1,2,4] [2,4] [(1,vi a1),(2,.own 2 0),(4,.own 4 0)] [(2,132,(E_ref32_Box a0)),(4,132,[.str [],.str [],.str [],vi 0,.str [],.val (.slice none 0 0),.val (.slice none 0 0),.str [],vi 0,vi 0,vi 0,vi 0,vi 0,vi 0,vi 0,vi 0,vi 0,vi 0,vi 0,vb false,vb false,vi 0,vi 0,vi 0,vi 0])] (To.thenN (Wp.seq (Wp.seq (rg [1,2,4,8] [2,4] [(1,vi a1),(2,.own 2 0),(4,.own 4 0),(8,vb (a0.f_State == 2))] [(2,132,(E_ref32_Box a0)),(4,132,[.str [],.str [],.str [],vi 0,.str [],.val (.slice none 0 0),.val (.slice none 0 0),.str [],vi 0,vi 0,vi 0,vi 0,vi 0,vi 0,vi 0,vi 0,vi 0,vi 0,vi 0,vb false,vb false,vi 0,vi 0,vi 0,vi 0])] (To.thenN (cn h (fun h=>?_) (fun h=>?_))))))))
 ·refine Wp.seq (rg [4,5] [4] [(4,.own 4 0),(5,vi 13)] [(4,132,(E_ref32_Box a0))] (To.thenN (Wp.ret (To.thenR ?_))))
  cases h
  exact To.done hΓ (by kernel_rfl)
 ·refine Wp.skip (To.thenN (Wp.seq ?_))
  obtain ⟨r1,hr1,h⟩:=lett_of h
  refine Wp.regionD hm hΓ [(13,.agg (qc12 r1))] [4,5] [4] (K':=[(4,.own 4 0),(5,vi 0)]) (L':=[(4,132,[.str a0.f_Spec.f_Name,.str a0.f_Spec.f_Project,.str a0.f_Spec.f_Service,vi a0.f_Spec.f_Number,.str a0.f_Spec.f_Hash,ls a0.f_Spec.f_Nets,ls a0.f_Spec.f_Vols,.str a0.f_Spec.f_Health.f_Test,vi a0.f_Spec.f_Health.f_Every,vi a0.f_Spec.f_Health.f_Start,vi a0.f_Spec.f_Health.f_Retries,vi a0.f_Spec.f_Restart,vi a0.f_Spec.f_Tries,vi a0.f_Id,vi 2,vi 0,vi (ex19 a0),vi 0,vi (-1),vb false,vb a0.f_Sick,vi r1.f_Health,vi r1.f_Fails,vi r1.f_Began,vi r1.f_Next])]) (ob:=[(true = true → CX Tryz.prog 122 [.agg [.str a0.f_Spec.f_Health.f_Test,vi a0.f_Spec.f_Health.f_Every,vi a0.f_Spec.f_Health.f_Start,vi a0.f_Spec.f_Health.f_Retries],vi a1] (.agg (qc12 r1)))]) (by kernel_rfl) (AllP.cons (fun _=>cx (ok_ref30_Begin a0.f_Spec.f_Health a1 _ hr1)) AllP.nil) (To.thenN (Wp.ret ?_))
  cases h
  exact To.done hΓ (by kernel_rfl)
def ref32_Stop_j1 (v15:Bool) (b1:S_ref32_Box) (b2:S_ref32_Box):S_ref32_Box :=
 if v15 = true then ((S_ref32_Box.mk b1.f_Spec b1.f_Id 3 143 b1.f_Runs b1.f_Done b1.f_At b1.f_ByHand b1.f_Sick b1.f_Probe))
 else b1
abbrev ex20 (x0:S_ref32_Box):=(List.set (E_ref32_Box x0) 14 (vi 3))
theorem ok_ref32_Stop_j1 (v15:Bool) (b1:S_ref32_Box) (b2:S_ref32_Box) (o:S_ref32_Box) (h:ref32_Stop_j1 v15 b1 b2 = o) {F0:Fz} {w0:Pt Tryz.prog} {Q:Exit → Act → World → Prop} (hQ:To 21 F0 w0 [(1,.own 1 0),(2,.own 2 0)] [(1,132,qc21 o),(2,132,(E_ref32_Box b2))] .normal Q):Wp Tryz.prog 21 F0 w0 [(1,.own 1 0),(2,.own 2 0),(15,vb v15)] [(1,132,(E_ref32_Box b1)),(2,132,(E_ref32_Box b2))] (cB (cA (cB (cB (cF Tryz.f92))))) Q:=by
 unfold ref32_Stop_j1 at h
 refine cn h (fun h=>?_) (fun h=>?_)
 ·refine Wp.seq (rg [1,2] [1,2] [(1,.own 1 0),(2,.own 2 0)] [(1,132,(ex20 b1)),(2,132,(E_ref32_Box b2))] (To.thenN (rg [1,2] [1,2] [(1,.own 1 0),(2,.own 2 0)] [(1,132,(List.set (ex20 b1) 15 (vi 143))),(2,132,(E_ref32_Box b2))] (kt [1,2] [1,2] [(1,.own 1 0),(2,.own 2 0)] [(1,132,(List.set (ex20 b1) 15 (vi 143))),(2,132,(E_ref32_Box b2))] ?_))))
  cases h
  exact hQ
 ·refine Wp.skip (kt [1,2] [1,2] [(1,.own 1 0),(2,.own 2 0)] [(1,132,(E_ref32_Box b1)),(2,132,(E_ref32_Box b2))] ?_)
  cases h
  exact hQ
def ref32_Stop (a0:S_ref32_Box):S_ref32_Box × Int :=
 if (bif (a0.f_State != 2) then (a0.f_At == (-1)) else false) = true then ((a0,13))
 else (lett (ref32_Stop_j1 (a0.f_State == 2) a0 (S_ref32_Box.mk (S_api_Spec.mk [] [] [] 0 [] [] [] (S_api_Check.mk [] 0 0 0) 0 0) 0 0 0 0 0 0 false false (S_probe_State.mk 0 0 0 0))) fun o1 =>
 ((S_ref32_Box.mk o1.f_Spec o1.f_Id o1.f_State o1.f_Code o1.f_Runs o1.f_Done (-1) true o1.f_Sick o1.f_Probe),0))
theorem ok_ref32_Stop (a0:S_ref32_Box) (r:S_ref32_Box × Int) (h:ref32_Stop a0 = r):CallsX Tryz.prog 92 [.agg (qc21 a0)] (.tup [.agg (qc21 r.1),vi r.2]):=by
 unfold ref32_Stop at h
 refine xo Tryz.f92 rfl fun F0 w0 _=>?_
 refine Wp.seq (rg [1,2] [1,2] [(1,.own 1 0),(2,.own 2 0)] [(1,132,(E_ref32_Box a0)),(2,132,[.str [],.str [],.str [],vi 0,.str [],.val (.slice none 0 0),.val (.slice none 0 0),.str [],vi 0,vi 0,vi 0,vi 0,vi 0,vi 0,vi 0,vi 0,vi 0,vi 0,vi 0,vb false,vb false,vi 0,vi 0,vi 0,vi 0])] (To.thenN (Wp.seq (Wp.seq (rg [1,2,11] [1,2] [(1,.own 1 0),(2,.own 2 0),(11,vb (bif (a0.f_State != 2) then (a0.f_At == (-1)) else false))] [(1,132,(E_ref32_Box a0)),(2,132,[.str [],.str [],.str [],vi 0,.str [],.val (.slice none 0 0),.val (.slice none 0 0),.str [],vi 0,vi 0,vi 0,vi 0,vi 0,vi 0,vi 0,vi 0,vi 0,vi 0,vi 0,vb false,vb false,vi 0,vi 0,vi 0,vi 0])] (To.thenN (cn h (fun h=>?_) (fun h=>?_))))))))
 ·refine Wp.seq (rg [2,3] [2] [(2,.own 2 0),(3,vi 13)] [(2,132,(E_ref32_Box a0))] (To.thenN (Wp.ret (To.thenR ?_))))
  cases h
  exact To.done hΓ (by kernel_rfl)
 ·refine Wp.skip (To.thenN (Wp.seq (Wp.seq (rg [1,2,15] [1,2] [(1,.own 1 0),(2,.own 2 0),(15,vb (a0.f_State == 2))] [(1,132,(E_ref32_Box a0)),(2,132,[.str [],.str [],.str [],vi 0,.str [],.val (.slice none 0 0),.val (.slice none 0 0),.str [],vi 0,vi 0,vi 0,vi 0,vi 0,vi 0,vi 0,vi 0,vi 0,vi 0,vi 0,vb false,vb false,vi 0,vi 0,vi 0,vi 0])] (To.thenN ?_)))))
  obtain ⟨o1,ho1,h⟩:=lett_of h
  refine kw [1,2,15] [1,2] [(1,.own 1 0),(2,.own 2 0),(15,vb (a0.f_State == 2))] [(1,132,(E_ref32_Box a0)),(2,132,[.str [],.str [],.str [],vi 0,.str [],.val (.slice none 0 0),.val (.slice none 0 0),.str [],vi 0,vi 0,vi 0,vi 0,vi 0,vi 0,vi 0,vi 0,vi 0,vi 0,vi 0,vb false,vb false,vi 0,vi 0,vi 0,vi 0])] (Wp.weak (K':=[(1,.own 1 0),(2,.own 2 0),(15,vb (a0.f_State == 2))]) (L':=[(1,132,(E_ref32_Box a0)),(2,132,[.str [],.str [],.str [],vi 0,.str [],ls [],ls [],.str [],vi 0,vi 0,vi 0,vi 0,vi 0,vi 0,vi 0,vi 0,vi 0,vi 0,vi 0,vb false,vb false,vi 0,vi 0,vi 0,vi 0])]) (.cons (.refl _) (.cons (.refl _) (.cons (.refl _) .nil))) (.cons (.cons (.refl _) (.cons (.refl _) (.cons (.refl _) (.cons (.refl _) (.cons (.refl _) (.cons (.refl _) (.cons (.refl _) (.cons (.refl _) (.cons (.refl _) (.cons (.refl _) (.cons (.refl _) (.cons (.refl _) (.cons (.refl _) (.cons (.refl _) (.cons (.refl _) (.cons (.refl _) (.cons (.refl _) (.cons (.refl _) (.cons (.refl _) (.cons (.refl _) (.cons (.refl _) (.cons (.refl _) (.cons (.refl _) (.cons (.refl _) (.cons (.refl _) .nil))))))))))))))))))))))))) (.cons (.cons (.refl _) (.cons (.refl _) (.cons (.refl _) (.cons (.refl _) (.cons (.refl _) (.cons (.zero _ _) (.cons (.zero _ _) (.cons (.refl _) (.cons (.refl _) (.cons (.refl _) (.cons (.refl _) (.cons (.refl _) (.cons (.refl _) (.cons (.refl _) (.cons (.refl _) (.cons (.refl _) (.cons (.refl _) (.cons (.refl _) (.cons (.refl _) (.cons (.refl _) (.cons (.refl _) (.cons (.refl _) (.cons (.refl _) (.cons (.refl _) (.cons (.refl _) .nil))))))))))))))))))))))))) .nil)) (ok_ref32_Stop_j1 (a0.f_State == 2) a0 (S_ref32_Box.mk (S_api_Spec.mk [] [] [] 0 [] [] [] zx13 0 0) 0 0 0 0 0 0 false false zx14) o1 ho1 (To.thenN (Wp.seq (rg [1,2] [1,2] [(1,.own 1 0),(2,.own 2 0)] [(1,132,(List.set (E_ref32_Box o1) 19 (vb true))),(2,132,[.str [],.str [],.str [],vi 0,.str [],ls [],ls [],.str [],vi 0,vi 0,vi 0,vi 0,vi 0,vi 0,vi 0,vi 0,vi 0,vi 0,vi 0,vb false,vb false,vi 0,vi 0,vi 0,vi 0])] (To.thenN (Wp.seq (rg [1,2] [1,2] [(1,.own 1 0),(2,.own 2 0)] [(1,132,(List.set (List.set (E_ref32_Box o1) 18 (vi (-1))) 19 (vb true))),(2,132,[.str [],.str [],.str [],vi 0,.str [],ls [],ls [],.str [],vi 0,vi 0,vi 0,vi 0,vi 0,vi 0,vi 0,vi 0,vi 0,vi 0,vi 0,vb false,vb false,vi 0,vi 0,vi 0,vi 0])] (To.thenN (Wp.seq ?_))))))))))
  refine rg [2,3] [2] [(2,.own 2 0),(3,vi 0)] [(2,132,(List.set (List.set (E_ref32_Box o1) 18 (vi (-1))) 19 (vb true)))] (To.thenN (Wp.ret ?_))
  cases h
  exact To.done hΓ (by kernel_rfl)
def ref33_Put_j1 (n:Nat) (v5:List (S_ref32_Box)) (v6:Int) (v16:Bool) (b2:S_ref33_Store) (b3:S_ref32_Box) (b4:S_ref33_Store):Option ((List (S_ref32_Box))) :=
 if v16 = true then (if (decide (0 ≤ v6 ∧ v6 < (List.length v5:Int))) = true then (some (List.set v5 (Int.toNat v6) b3)) else none)
 else some v5
theorem ok_ref33_Put_j1 (n:Nat) (v5:List (S_ref32_Box)) (v6:Int) (v16:Bool) (b2:S_ref33_Store) (b3:S_ref32_Box) (b4:S_ref33_Store) (o:(List (S_ref32_Box))) (h:ref33_Put_j1 n v5 v6 v16 b2 b3 b4 = some o) {F0:Fz} {w0:Pt Tryz.prog} {Q:Exit → Act → World → Prop} (hQ:To 24 F0 w0 [(2,.own 2 0),(4,.own 4 0),(5,.row 1005)] [(2,30,qc20 b2),(4,30,qc20 b4),(1005,132,[rc23 o])] .normal Q):Wp Tryz.prog 24 F0 w0 [(2,.own 2 0),(3,.own 3 0),(4,.own 4 0),(5,.row 1005),(6,vi v6),(16,vb v16)] [(2,30,qc20 b2),(3,132,(E_ref32_Box b3)),(4,30,qc20 b4),(1005,132,[rc23 v5])] (cB (cA (cB (cB (cB (cF Tryz.f93)))))) Q:=by
 unfold ref33_Put_j1 at h
 refine cn h (fun h=>?_) (fun h=>?_)
 ·obtain ⟨hc2,h⟩:=chk_of h
  refine rr [] [(4,rs19 (List.set v5 (Int.toNat v6) b3))] [] [2,4,5] [2,4,1005] [(2,.own 2 0),(4,.own 4 0),(5,.row 1005)] [(2,30,qc20 b2),(4,30,qc20 b4),(1005,132,[rc23 (List.set v5 (Int.toNat v6) b3)])] [_,_,UpdOb Z_ref32_Box E_ref32_Box v5 v6 0 (qc21 b3) (rs19 (List.set v5 (Int.toNat v6) b3))] (AllP.cons hc2 (AllP.cons hc2 (AllP.cons (updOb (by kernel_rfl)) AllP.nil))) (kt [2,4,5] [2,4,1005] [(2,.own 2 0),(4,.own 4 0),(5,.row 1005)] [(2,30,qc20 b2),(4,30,qc20 b4),(1005,132,[rc23 (List.set v5 (Int.toNat v6) b3)])] ?_)
  cases h
  exact hQ
 ·refine Wp.skip (kt [2,4,5] [2,4,1005] [(2,.own 2 0),(4,.own 4 0),(5,.row 1005)] [(2,30,qc20 b2),(4,30,qc20 b4),(1005,132,[rc23 v5])] ?_)
  cases h
  exact hQ
def ref33_Put (n:Nat) (a0:S_ref33_Store) (a1:S_ref32_Box):Option (S_ref33_Store) :=
 if (decide ((List.length ([]:List (S_ref32_Box)) + List.length a0.f_Boxes) * (264 + 1) ≤ limit)) = true then ((ref33_Find n a0 a1.f_Id).bind fun r1 =>
 (ref33_Put_j1 n (([]:List (S_ref32_Box)) ++ a0.f_Boxes) r1 (decide (r1 ≥ 0)) a0 a1 (S_ref33_Store.mk [] [] [] 0)).bind fun o2 =>
 some (S_ref33_Store.mk o2 a0.f_Nets a0.f_Vols a0.f_Last)) else none
abbrev qc25 (k0:Nat) (x:S_ref33_Store):List D:=[.row k0,rs16 x.f_Nets,rs16 x.f_Vols,vi x.f_Last]
theorem ok_ref33_Put (n:Nat) (a0:S_ref33_Store) (a1:S_ref32_Box) (r:S_ref33_Store) (h:ref33_Put n a0 a1 = some r):CallsX Tryz.prog 93 [.agg (qc20 a0),.agg (qc21 a1)] (.agg (qc20 r)):=by
 unfold ref33_Put at h
 refine xo Tryz.f93 rfl fun F0 w0 _=>?_
 refine Wp.seq (rg [2,3,4] [2,3,4] [(2,.own 2 0),(3,.own 3 0),(4,.own 4 0)] [(2,30,qc20 a0),(3,132,(E_ref32_Box a1)),(4,30,[.val (.slice none 0 0),.val (.slice none 0 0),.val (.slice none 0 0),vi 0])] (To.thenN (Wp.seq ?_)))
 obtain ⟨hc3,h⟩:=chk_of h
 refine rr [] [(0,rs19 []),(3,rs19 (ex17 a0))] [] [2,3,4,5] [2,3,4,10] [(2,.own 2 0),(3,.own 3 0),(4,.own 4 0),(5,.row 10)] [(2,30,qc20 a0),(3,132,(E_ref32_Box a1)),(4,30,[.val (.slice none 0 0),.val (.slice none 0 0),.val (.slice none 0 0),vi 0]),(10,132,[rc23 (ex17 a0)])] [(MkOb 25 [] 0 (rs19 []) ∧ GoodR (rs19 [])),_,(AppOb Z_ref32_Box E_ref32_Box ([]:List (S_ref32_Box)) (List.flatMap E_ref32_Box a0.f_Boxes) (List.length a0.f_Boxes) (rs19 (ex17 a0)) ∧ GoodR (rs19 (ex17 a0)))] (AllP.cons (mkOb (by kernel_rfl) rfl (by kernel_rfl) (good_E_ref32_Box _)) (AllP.cons hc3 (AllP.cons (appOb rfl rfl (good_E_ref32_Box _)) AllP.nil))) (To.thenN (Wp.seq ?_))
 obtain ⟨r1,hr1,h⟩:=bind_of h
 refine rc [] 3 [2,3,4,5,6] [2,3,4,10] [(2,.own 2 0),(3,.own 3 0),(4,.own 4 0),(5,.row 10),(6,vi r1)] [(2,30,qc20 a0),(3,132,(E_ref32_Box a1)),(4,30,[.val (.slice none 0 0),.val (.slice none 0 0),.val (.slice none 0 0),vi 0]),(10,132,[rc23 (ex17 a0)])] (ok_ref33_Find n a0 a1.f_Id _ hr1) (To.thenN (Wp.seq (Wp.seq (rg [2,3,4,5,6,16] [2,3,4,10] [(2,.own 2 0),(3,.own 3 0),(4,.own 4 0),(5,.row 10),(6,vi r1),(16,vb (decide (r1 ≥ 0)))] [(2,30,qc20 a0),(3,132,(E_ref32_Box a1)),(4,30,[.val (.slice none 0 0),.val (.slice none 0 0),.val (.slice none 0 0),vi 0]),(10,132,[rc23 (ex17 a0)])] (To.thenN ?_)))))
 obtain ⟨o2,ho2,h⟩:=bind_of h
 refine nw [2,3,4,5,6,16] [2,3,4,10] [(10,1005)] [2,3,4,5,6,16] [2,3,4,1005] [(2,.own 2 0),(3,.own 3 0),(4,.own 4 0),(5,.row 1005),(6,vi r1),(16,vb (decide (r1 ≥ 0)))] [(2,30,qc20 a0),(3,132,(E_ref32_Box a1)),(4,30,[.val (.slice none 0 0),.val (.slice none 0 0),.val (.slice none 0 0),vi 0]),(1005,132,[rc23 (ex17 a0)])] (Wp.weak (K':=[(2,.own 2 0),(3,.own 3 0),(4,.own 4 0),(5,.row 1005),(6,vi r1),(16,vb (decide (r1 ≥ 0)))]) (L':=[(2,30,qc20 a0),(3,132,(E_ref32_Box a1)),(4,30,[rs19 [],rs16 [],rs16 [],vi 0]),(1005,132,[rc23 (ex17 a0)])]) (.cons (.refl _) (.cons (.refl _) (.cons (.refl _) (.cons (.refl _) (.cons (.refl _) (.cons (.refl _) .nil)))))) (.cons (.cons (.refl _) (.cons (.refl _) (.cons (.refl _) (.cons (.refl _) .nil)))) (.cons (.cons (.refl _) (.cons (.refl _) (.cons (.refl _) (.cons (.refl _) (.cons (.refl _) (.cons (.refl _) (.cons (.refl _) (.cons (.refl _) (.cons (.refl _) (.cons (.refl _) (.cons (.refl _) (.cons (.refl _) (.cons (.refl _) (.cons (.refl _) (.cons (.refl _) (.cons (.refl _) (.cons (.refl _) (.cons (.refl _) (.cons (.refl _) (.cons (.refl _) (.cons (.refl _) (.cons (.refl _) (.cons (.refl _) (.cons (.refl _) (.cons (.refl _) .nil))))))))))))))))))))))))) (.cons (.cons (.zero _ _) (.cons (.zero _ _) (.cons (.zero _ _) (.cons (.refl _) .nil)))) (.cons (.cons (.refl _) .nil) .nil)))) (ok_ref33_Put_j1 n (ex17 a0) r1 (decide (r1 ≥ 0)) a0 a1 zx22 o2 ho2 (To.thenN (Wp.seq (rg [2,4] [2,4,1005] [(2,.own 2 0),(4,.own 4 0)] [(2,30,qc25 1005 a0),(4,30,[rs19 [],rs16 [],rs16 [],vi 0]),(1005,132,[rc23 o2])] (To.thenN (Wp.seq (rg [4] [4,1005] [(4,.own 4 0)] [(4,30,qc25 1005 a0),(1005,132,[rc23 o2])] (To.thenN (Wp.ret ?_))))))))))
 refine To.pre (St.settle (ks:=[1005]) (kk:=[4]) (kl:=[4,1005]) (K':=[(4,.own 4 0)]) (L':=[(4,30,qc25 1005 a0),(1005,132,[rc24 o2])]) (by kernel_rfl)) (To.pre (St.sealB [4] (L':=[(4,30,[rs19 o2,rs16 a0.f_Nets,rs16 a0.f_Vols,vi a0.f_Last]),(1005,132,[rc24 o2])]) (by kernel_rfl)) ?_)
 cases h
 exact To.done hΓ (by kernel_rfl)
def ref33_Store_change_j1 (n:Nat) (v2:Int) (v51:Bool) (b3:S_ref33_Store) (b4:S_api_Call) (b6:S_ref33_Store) (b10:S_ref32_Box):Option (Int × S_ref32_Box) :=
 if v51 = true then (lett (ref32_Start b10 v2) fun r7 =>
 some (r7.2,r7.1))
 else (lett (ref32_Stop b10) fun r8 =>
 some (r8.2,r8.1))
theorem ok_ref33_Store_change_j1 (n:Nat) (v2:Int) (v51:Bool) (b3:S_ref33_Store) (b4:S_api_Call) (b6:S_ref33_Store) (b10:S_ref32_Box) (o:Int × S_ref32_Box) (h:ref33_Store_change_j1 n v2 v51 b3 b4 b6 b10 = some o) {F0:Fz} {w0:Pt Tryz.prog} {Q:Exit → Act → World → Prop} (hQ:To 72 F0 w0 [(3,.own 3 0),(4,.own 4 0),(6,.own 6 0),(10,.own 10 0),(12,vi o.1)] [(3,30,qc20 b3),(4,40,(E_api_Call b4)),(6,30,qc20 b6),(10,132,qc21 o.2)] .normal Q):Wp Tryz.prog 72 F0 w0 [(2,vi v2),(3,.own 3 0),(4,.own 4 0),(6,.own 6 0),(10,.own 10 0),(51,vb v51)] [(3,30,qc20 b3),(4,40,(E_api_Call b4)),(6,30,qc20 b6),(10,132,(E_ref32_Box b10))] (cB (cA (cB (cB (cB (cB (cB (cB (cF Tryz.f59))))))))) Q:=by
 unfold ref33_Store_change_j1 at h
 refine cn h (fun h=>?_) (fun h=>?_)
 ·obtain ⟨r7,hr7,h⟩:=lett_of h
  refine rc [] 2 [3,4,6,10,12] [3,4,6,10] [(3,.own 3 0),(4,.own 4 0),(6,.own 6 0),(10,.own 10 0),(12,vi r7.2)] [(3,30,qc20 b3),(4,40,(E_api_Call b4)),(6,30,qc20 b6),(10,132,(E_ref32_Box r7.1))] (ok_ref32_Start b10 v2 _ hr7) (kt [3,4,6,10,12] [3,4,6,10] [(3,.own 3 0),(4,.own 4 0),(6,.own 6 0),(10,.own 10 0),(12,vi r7.2)] [(3,30,qc20 b3),(4,40,(E_api_Call b4)),(6,30,qc20 b6),(10,132,(E_ref32_Box r7.1))] ?_)
  cases h
  exact hQ
 ·obtain ⟨r8,hr8,h⟩:=lett_of h
  refine rc [] 1 [3,4,6,10,12] [3,4,6,10] [(3,.own 3 0),(4,.own 4 0),(6,.own 6 0),(10,.own 10 0),(12,vi r8.2)] [(3,30,qc20 b3),(4,40,(E_api_Call b4)),(6,30,qc20 b6),(10,132,(E_ref32_Box r8.1))] (ok_ref32_Stop b10 _ hr8) (kt [3,4,6,10,12] [3,4,6,10] [(3,.own 3 0),(4,.own 4 0),(6,.own 6 0),(10,.own 10 0),(12,vi r8.2)] [(3,30,qc20 b3),(4,40,(E_api_Call b4)),(6,30,qc20 b6),(10,132,(E_ref32_Box r8.1))] ?_)
  cases h
  exact hQ
def ref33_Store_change (n:Nat) (a0:S_ref33_Store) (a1:S_api_Call) (a2:Int):Option (S_ref33_Store × Int × Int) :=
 (ref33_Find n a0 a1.f_Id).bind fun r1 =>
 if (decide (r1 < 0)) = true then (some (a0,0,12))
 else (if (decide (0 ≤ r1 ∧ r1 < (List.length a0.f_Boxes:Int))) = true then (if (a1.f_Kind == 8) = true then (if ((((a0.f_Boxes)[Int.toNat r1]?.getD Z_ref32_Box).f_State) == 2) = true then (some (a0,0,13))
 else (if (decide (0 ≤ r1 ∧ r1 ≤ (List.length a0.f_Boxes:Int))) = true then (if (decide ((List.length ([]:List (S_ref32_Box)) + List.length (List.take (Int.toNat r1) a0.f_Boxes)) * (264 + 1) ≤ limit)) = true then (if (decide (0 ≤ (IntKind.wrap .i64 (r1 + 1)) ∧ (IntKind.wrap .i64 (r1 + 1)) ≤ (List.length a0.f_Boxes:Int))) = true then (if (decide ((List.length (([]:List (S_ref32_Box)) ++ (List.take (Int.toNat r1) a0.f_Boxes)) + List.length (List.drop (Int.toNat (IntKind.wrap .i64 (r1 + 1))) a0.f_Boxes)) * (264 + 1) ≤ limit)) = true then (lett (((([]:List (S_ref32_Box)) ++ (List.take (Int.toNat r1) a0.f_Boxes)) ++ (List.drop (Int.toNat (IntKind.wrap .i64 (r1 + 1))) a0.f_Boxes)):List (S_ref32_Box)) fun x2 =>
 some ((S_ref33_Store.mk x2 a0.f_Nets a0.f_Vols a0.f_Last),a1.f_Id,0)) else none) else none) else none) else none))
 else ((ref33_Store_change_j1 n a2 (a1.f_Kind == 6) a0 a1 (S_ref33_Store.mk [] [] [] 0) ((a0.f_Boxes)[Int.toNat r1]?.getD Z_ref32_Box)).bind fun o7 =>
 if (o7.1 != 0) = true then (some (a0,0,o7.1))
 else ((ref33_Put n a0 o7.2).bind fun r8 =>
 some (r8,a1.f_Id,0)))) else none)
theorem ok_ref33_Store_change (n:Nat) (a0:S_ref33_Store) (a1:S_api_Call) (a2:Int) (r:S_ref33_Store × Int × Int) (h:ref33_Store_change n a0 a1 a2 = some r):CallsX Tryz.prog 59 [.agg (qc20 a0),.agg (qc6 a1),vi a2] (.tup [.agg (qc20 r.1),vi r.2.1,vi r.2.2]):=by
 unfold ref33_Store_change at h
 refine xo Tryz.f59 rfl fun F0 w0 _=>?_
 refine Wp.seq (rg [2,3,4,6] [3,4,6] [(2,vi a2),(3,.own 3 0),(4,.own 4 0),(6,.own 6 0)] [(3,30,qc20 a0),(4,40,(E_api_Call a1)),(6,30,[.val (.slice none 0 0),.val (.slice none 0 0),.val (.slice none 0 0),vi 0])] (To.thenN (Wp.seq ?_)))
 obtain ⟨r1,hr1,h⟩:=bind_of h
 refine rc [] 3 [2,3,4,6,9] [3,4,6] [(2,vi a2),(3,.own 3 0),(4,.own 4 0),(6,.own 6 0),(9,vi r1)] [(3,30,qc20 a0),(4,40,(E_api_Call a1)),(6,30,[.val (.slice none 0 0),.val (.slice none 0 0),.val (.slice none 0 0),vi 0])] (ok_ref33_Find n a0 a1.f_Id _ hr1) (To.thenN (Wp.seq (Wp.seq (rg [2,3,4,6,9,18] [3,4,6] [(2,vi a2),(3,.own 3 0),(4,.own 4 0),(6,.own 6 0),(9,vi r1),(18,vb (decide (r1 < 0)))] [(3,30,qc20 a0),(4,40,(E_api_Call a1)),(6,30,[.val (.slice none 0 0),.val (.slice none 0 0),.val (.slice none 0 0),vi 0])] (To.thenN (cn h (fun h=>?_) (fun h=>?_)))))))
 ·refine Wp.seq (rg [6,7,8] [6] [(6,.own 6 0),(7,vi 0),(8,vi 12)] [(6,30,qc20 a0)] (To.thenN (Wp.ret (To.thenR ?_))))
  cases h
  exact To.done hΓ (by kernel_rfl)
 ·refine Wp.skip (To.thenN (Wp.seq ?_))
  obtain ⟨hc9,h⟩:=chk_of h
  refine r0 [2,3,4,6,9,10] [3,4,6,10] [(2,vi a2),(3,.own 3 0),(4,.own 4 0),(6,.own 6 0),(9,vi r1),(10,.own 10 0)] [(3,30,qc20 a0),(4,40,(E_api_Call a1)),(6,30,[.val (.slice none 0 0),.val (.slice none 0 0),.val (.slice none 0 0),vi 0]),(10,132,(E_ref32_Box ((a0.f_Boxes)[Int.toNat r1]?.getD Z_ref32_Box)))] (AllP.cons hc9 AllP.nil) (To.thenN (Wp.seq (Wp.seq (rg [2,3,4,6,9,10,27] [3,4,6,10] [(2,vi a2),(3,.own 3 0),(4,.own 4 0),(6,.own 6 0),(9,vi r1),(10,.own 10 0),(27,vb (a1.f_Kind == 8))] [(3,30,qc20 a0),(4,40,(E_api_Call a1)),(6,30,[.val (.slice none 0 0),.val (.slice none 0 0),.val (.slice none 0 0),vi 0]),(10,132,(E_ref32_Box ((a0.f_Boxes)[Int.toNat r1]?.getD Z_ref32_Box)))] (To.thenN (cn h (fun h=>?_) (fun h=>?_)))))))
  ·refine Wp.seq (Wp.seq (rg [3,4,6,9,30] [3,4,6] [(3,.own 3 0),(4,.own 4 0),(6,.own 6 0),(9,vi r1),(30,vb ((((a0.f_Boxes)[Int.toNat r1]?.getD Z_ref32_Box).f_State) == 2))] [(3,30,qc20 a0),(4,40,(E_api_Call a1)),(6,30,[.val (.slice none 0 0),.val (.slice none 0 0),.val (.slice none 0 0),vi 0])] (To.thenN (cn h (fun h=>?_) (fun h=>?_)))))
   ·refine Wp.seq (rg [6,7,8] [6] [(6,.own 6 0),(7,vi 0),(8,vi 13)] [(6,30,qc20 a0)] (To.thenN (Wp.ret (To.thenR (To.thenR ?_)))))
    cases h
    exact To.done hΓ (by kernel_rfl)
   ·refine Wp.skip (To.thenN (Wp.seq ?_))
    obtain ⟨hc5,h⟩:=chk_of h
    obtain ⟨hc6,h⟩:=chk_of h
    refine rr [] [(0,rs19 []),(5,rs19 (([]:List (S_ref32_Box)) ++ (List.take (Int.toNat r1) a0.f_Boxes)))] [] [3,4,6,9,11] [3,4,6,37] [(3,.own 3 0),(4,.own 4 0),(6,.own 6 0),(9,vi r1),(11,.row 37)] [(3,30,qc20 a0),(4,40,(E_api_Call a1)),(6,30,[.val (.slice none 0 0),.val (.slice none 0 0),.val (.slice none 0 0),vi 0]),(37,132,[rc23 (([]:List (S_ref32_Box)) ++ (List.take (Int.toNat r1) a0.f_Boxes))])] [(MkOb 25 [] 0 (rs19 []) ∧ GoodR (rs19 [])),_,_,(AppOb Z_ref32_Box E_ref32_Box ([]:List (S_ref32_Box)) (List.flatMap E_ref32_Box (List.take (Int.toNat r1) a0.f_Boxes)) (List.length (List.take (Int.toNat r1) a0.f_Boxes)) (rs19 (([]:List (S_ref32_Box)) ++ (List.take (Int.toNat r1) a0.f_Boxes))) ∧ GoodR (rs19 (([]:List (S_ref32_Box)) ++ (List.take (Int.toNat r1) a0.f_Boxes))))] (AllP.cons (mkOb (by kernel_rfl) rfl (by kernel_rfl) (good_E_ref32_Box _)) (AllP.cons hc5 (AllP.cons hc6 (AllP.cons (appOb rfl rfl (good_E_ref32_Box _)) AllP.nil)))) (To.thenN (Wp.seq ?_))
    obtain ⟨hc3,h⟩:=chk_of h
    obtain ⟨hc4,h⟩:=chk_of h
    obtain ⟨x2,hx2,h⟩:=lett_of h
    refine rr [] [(6,rs19 ((([]:List (S_ref32_Box)) ++ (List.take (Int.toNat r1) a0.f_Boxes)) ++ (List.drop (Int.toNat (IntKind.wrap .i64 (r1 + 1))) a0.f_Boxes)))] [] [3,4,6] [3,4,6,44] [(3,.own 3 0),(4,.own 4 0),(6,.own 6 0)] [(3,30,qc25 44 a0),(4,40,(E_api_Call a1)),(6,30,[.val (.slice none 0 0),.val (.slice none 0 0),.val (.slice none 0 0),vi 0]),(44,132,[rc23 ((([]:List (S_ref32_Box)) ++ (List.take (Int.toNat r1) a0.f_Boxes)) ++ (List.drop (Int.toNat (IntKind.wrap .i64 (r1 + 1))) a0.f_Boxes))])] [_,_,(AppOb Z_ref32_Box E_ref32_Box (([]:List (S_ref32_Box)) ++ (List.take (Int.toNat r1) a0.f_Boxes)) (List.flatMap E_ref32_Box (List.drop (Int.toNat (IntKind.wrap .i64 (r1 + 1))) a0.f_Boxes)) (List.length (List.drop (Int.toNat (IntKind.wrap .i64 (r1 + 1))) a0.f_Boxes)) (rs19 ((([]:List (S_ref32_Box)) ++ (List.take (Int.toNat r1) a0.f_Boxes)) ++ (List.drop (Int.toNat (IntKind.wrap .i64 (r1 + 1))) a0.f_Boxes))) ∧ GoodR (rs19 ((([]:List (S_ref32_Box)) ++ (List.take (Int.toNat r1) a0.f_Boxes)) ++ (List.drop (Int.toNat (IntKind.wrap .i64 (r1 + 1))) a0.f_Boxes))))] (AllP.cons hc3 (AllP.cons hc4 (AllP.cons (appOb rfl rfl (good_E_ref32_Box _)) AllP.nil))) (To.eq (K':=[(3,.own 3 0),(4,.own 4 0),(6,.own 6 0)]) (L':=[(3,30,qc25 44 a0),(4,40,(E_api_Call a1)),(6,30,[.val (.slice none 0 0),.val (.slice none 0 0),.val (.slice none 0 0),vi 0]),(44,132,[rc23 x2])]) (by cases hx2; rfl) (by cases hx2; rfl) (To.thenN (Wp.seq (Wp.regionD hm hΓ [] [6,7,8] [6,44] (K':=[(6,.own 6 0),(7,vi a1.f_Id),(8,vi 0)]) (L':=[(6,30,qc25 44 a0),(44,132,[rc23 x2])]) (ob:=[]) (by kernel_rfl) AllP.nil (To.thenN (Wp.ret (To.thenR (kt [6,7,8] [6,44] [(6,.own 6 0),(7,vi a1.f_Id),(8,vi 0)] [(6,30,qc25 44 a0),(44,132,[rc23 x2])] (To.pre (St.settle (ks:=[44]) (kk:=[6,7,8]) (kl:=[6,44]) (K':=[(6,.own 6 0),(7,vi a1.f_Id),(8,vi 0)]) (L':=[(6,30,qc25 44 a0),(44,132,[rc24 x2])]) (by kernel_rfl)) (To.pre (St.sealB [6] (L':=[(6,30,[rs19 x2,rs16 a0.f_Nets,rs16 a0.f_Vols,vi a0.f_Last]),(44,132,[rc24 x2])]) (by kernel_rfl)) ?_))))))))))
    cases h
    exact To.done hΓ (by kernel_rfl)
  ·refine Wp.skip (To.thenN (Wp.seq (rg [2,3,4,6,10] [3,4,6,10] [(2,vi a2),(3,.own 3 0),(4,.own 4 0),(6,.own 6 0),(10,.own 10 0)] [(3,30,qc20 a0),(4,40,(E_api_Call a1)),(6,30,[.val (.slice none 0 0),.val (.slice none 0 0),.val (.slice none 0 0),vi 0]),(10,132,(E_ref32_Box ((a0.f_Boxes)[Int.toNat r1]?.getD Z_ref32_Box)))] (To.thenN (Wp.seq (Wp.seq (rg [2,3,4,6,10,51] [3,4,6,10] [(2,vi a2),(3,.own 3 0),(4,.own 4 0),(6,.own 6 0),(10,.own 10 0),(51,vb (a1.f_Kind == 6))] [(3,30,qc20 a0),(4,40,(E_api_Call a1)),(6,30,[.val (.slice none 0 0),.val (.slice none 0 0),.val (.slice none 0 0),vi 0]),(10,132,(E_ref32_Box ((a0.f_Boxes)[Int.toNat r1]?.getD Z_ref32_Box)))] (To.thenN ?_))))))))
   obtain ⟨o7,ho7,h⟩:=bind_of h
   refine kw [2,3,4,6,10,51] [3,4,6,10] [(2,vi a2),(3,.own 3 0),(4,.own 4 0),(6,.own 6 0),(10,.own 10 0),(51,vb (a1.f_Kind == 6))] [(3,30,qc20 a0),(4,40,(E_api_Call a1)),(6,30,[.val (.slice none 0 0),.val (.slice none 0 0),.val (.slice none 0 0),vi 0]),(10,132,(E_ref32_Box ((a0.f_Boxes)[Int.toNat r1]?.getD Z_ref32_Box)))] (Wp.weak (K':=[(2,vi a2),(3,.own 3 0),(4,.own 4 0),(6,.own 6 0),(10,.own 10 0),(51,vb (a1.f_Kind == 6))]) (L':=[(3,30,qc20 a0),(4,40,(E_api_Call a1)),(6,30,[rs19 [],rs16 [],rs16 [],vi 0]),(10,132,(E_ref32_Box ((a0.f_Boxes)[Int.toNat r1]?.getD Z_ref32_Box)))]) (.cons (.refl _) (.cons (.refl _) (.cons (.refl _) (.cons (.refl _) (.cons (.refl _) (.cons (.refl _) .nil)))))) (.cons (.cons (.refl _) (.cons (.refl _) (.cons (.refl _) (.cons (.refl _) .nil)))) (.cons (.cons (.refl _) (.cons (.refl _) (.cons (.refl _) (.cons (.refl _) (.cons (.refl _) (.cons (.refl _) (.cons (.refl _) (.cons (.refl _) (.cons (.refl _) (.cons (.refl _) (.cons (.refl _) (.cons (.refl _) (.cons (.refl _) (.cons (.refl _) (.cons (.refl _) (.cons (.refl _) .nil)))))))))))))))) (.cons (.cons (.zero _ _) (.cons (.zero _ _) (.cons (.zero _ _) (.cons (.refl _) .nil)))) (.cons (.cons (.refl _) (.cons (.refl _) (.cons (.refl _) (.cons (.refl _) (.cons (.refl _) (.cons (.refl _) (.cons (.refl _) (.cons (.refl _) (.cons (.refl _) (.cons (.refl _) (.cons (.refl _) (.cons (.refl _) (.cons (.refl _) (.cons (.refl _) (.cons (.refl _) (.cons (.refl _) (.cons (.refl _) (.cons (.refl _) (.cons (.refl _) (.cons (.refl _) (.cons (.refl _) (.cons (.refl _) (.cons (.refl _) (.cons (.refl _) (.cons (.refl _) .nil))))))))))))))))))))))))) .nil)))) (ok_ref33_Store_change_j1 n a2 (a1.f_Kind == 6) a0 a1 zx22 ((a0.f_Boxes)[Int.toNat r1]?.getD Z_ref32_Box) o7 ho7 (To.thenN (Wp.seq (Wp.seq (rg [3,4,6,10,12,64] [3,4,6,10] [(3,.own 3 0),(4,.own 4 0),(6,.own 6 0),(10,.own 10 0),(12,vi o7.1),(64,vb (o7.1 != 0))] [(3,30,qc20 a0),(4,40,(E_api_Call a1)),(6,30,[rs19 [],rs16 [],rs16 [],vi 0]),(10,132,(E_ref32_Box o7.2))] (To.thenN (cn h (fun h=>?_) (fun h=>?_)))))))))
   ·refine Wp.seq (rg [6,7,8] [6] [(6,.own 6 0),(7,vi 0),(8,vi o7.1)] [(6,30,qc20 a0)] (To.thenN (Wp.ret (To.thenR ?_))))
    cases h
    exact To.done hΓ (by kernel_rfl)
   ·refine Wp.skip (To.thenN (Wp.seq ?_))
    obtain ⟨r8,hr8,h⟩:=bind_of h
    refine Wp.regionD hm hΓ [(2,.agg (qc20 r8))] [6,7,8] [6] (K':=[(6,.own 6 0),(7,vi a1.f_Id),(8,vi 0)]) (L':=[(6,30,qc20 r8)]) (ob:=[(true = true → CX Tryz.prog 93 [.agg (qc20 a0),.agg (qc21 o7.2)] (.agg (qc20 r8)))]) (by kernel_rfl) (AllP.cons (fun _=>cx (ok_ref33_Put n a0 o7.2 _ hr8)) AllP.nil) (To.thenN (Wp.ret ?_))
    cases h
    exact To.done hΓ (by kernel_rfl)
def ref33_Do (n:Nat) (a0:S_ref33_Store) (a1:S_api_Call) (a2:Int):Option (S_ref33_Store × Int × Int) :=
 if (a1.f_Kind == 1) = true then ((ref33_put n a0.f_Nets a1).bind fun r1 =>
 some ((S_ref33_Store.mk a0.f_Boxes r1.1 a0.f_Vols a0.f_Last),0,r1.2))
 else (if (a1.f_Kind == 2) = true then ((ref33_put n a0.f_Vols a1).bind fun r2 =>
 some ((S_ref33_Store.mk a0.f_Boxes a0.f_Nets r2.1 a0.f_Last),0,r2.2))
 else (if (a1.f_Kind == 3) = true then ((ref33_drop n a0 a0.f_Nets a1.f_Name true).bind fun r3 =>
 some ((S_ref33_Store.mk a0.f_Boxes r3.1 a0.f_Vols a0.f_Last),0,r3.2))
 else (if (a1.f_Kind == 4) = true then ((ref33_drop n a0 a0.f_Vols a1.f_Name false).bind fun r4 =>
 some ((S_ref33_Store.mk a0.f_Boxes a0.f_Nets r4.1 a0.f_Last),0,r4.2))
 else (if (a1.f_Kind == 5) = true then ((ref33_Store_make n a0 a1.f_Spec).bind fun r5 =>
 some (r5.1,r5.2.1,r5.2.2))
 else (if (bif (bif (a1.f_Kind == 6) then true else (a1.f_Kind == 7)) then true else (a1.f_Kind == 8)) = true then ((ref33_Store_change n a0 a1 a2).bind fun r6 =>
 some (r6.1,r6.2.1,r6.2.2))
 else (some (a0,0,2)))))))
theorem ok_ref33_Do (n:Nat) (a0:S_ref33_Store) (a1:S_api_Call) (a2:Int) (r:S_ref33_Store × Int × Int) (h:ref33_Do n a0 a1 a2 = some r):CallsX Tryz.prog 13 [.agg (qc20 a0),.agg (qc6 a1),vi a2] (.tup [.agg (qc20 r.1),vi r.2.1,vi r.2.2]):=by
 unfold ref33_Do at h
 refine xo Tryz.f13 rfl fun F0 w0 _=>?_
 refine Wp.seq (rg [2,3,4,6] [3,4,6] [(2,vi a2),(3,.own 3 0),(4,.own 4 0),(6,.own 6 0)] [(3,30,qc20 a0),(4,40,(E_api_Call a1)),(6,30,[.val (.slice none 0 0),.val (.slice none 0 0),.val (.slice none 0 0),vi 0])] (To.thenN (Wp.seq (rg [2,3,4,6] [3,4,6] [(2,vi a2),(3,.own 3 0),(4,.own 4 0),(6,.own 6 0)] [(3,30,qc20 a0),(4,40,(E_api_Call a1)),(6,30,[.val (.slice none 0 0),.val (.slice none 0 0),.val (.slice none 0 0),vi 0])] (To.thenN (Wp.seq (Wp.seq (rg [2,3,4,6,12] [3,4,6] [(2,vi a2),(3,.own 3 0),(4,.own 4 0),(6,.own 6 0),(12,vb (a1.f_Kind == 1))] [(3,30,qc20 a0),(4,40,(E_api_Call a1)),(6,30,[.val (.slice none 0 0),.val (.slice none 0 0),.val (.slice none 0 0),vi 0])] (To.thenN (cn h (fun h=>?_) (fun h=>?_)))))))))))
 ·refine Wp.seq ?_
  obtain ⟨r1,hr1,h⟩:=bind_of h
  refine rc [] 3 [3,6,9] [3,6] [(3,.own 3 0),(6,.own 6 0),(9,vi r1.2)] [(3,30,[rs19 a0.f_Boxes,rs16 r1.1,rs16 a0.f_Vols,vi a0.f_Last]),(6,30,[.val (.slice none 0 0),.val (.slice none 0 0),.val (.slice none 0 0),vi 0])] (ok_ref33_put n a0.f_Nets a1 _ hr1) (To.thenN (Wp.seq (rg [6,7,8] [6] [(6,.own 6 0),(7,vi 0),(8,vi r1.2)] [(6,30,[rs19 a0.f_Boxes,rs16 r1.1,rs16 a0.f_Vols,vi a0.f_Last])] (To.thenN (Wp.ret (To.thenR ?_))))))
  cases h
  exact To.done hΓ (by kernel_rfl)
 ·refine Wp.skip (To.thenN (Wp.seq (Wp.seq (rg [2,3,4,6,25] [3,4,6] [(2,vi a2),(3,.own 3 0),(4,.own 4 0),(6,.own 6 0),(25,vb (a1.f_Kind == 2))] [(3,30,qc20 a0),(4,40,(E_api_Call a1)),(6,30,[.val (.slice none 0 0),.val (.slice none 0 0),.val (.slice none 0 0),vi 0])] (To.thenN (cn h (fun h=>?_) (fun h=>?_)))))))
  ·refine Wp.seq ?_
   obtain ⟨r2,hr2,h⟩:=bind_of h
   refine rc [] 3 [3,6,9] [3,6] [(3,.own 3 0),(6,.own 6 0),(9,vi r2.2)] [(3,30,[rs19 a0.f_Boxes,rs16 a0.f_Nets,rs16 r2.1,vi a0.f_Last]),(6,30,[.val (.slice none 0 0),.val (.slice none 0 0),.val (.slice none 0 0),vi 0])] (ok_ref33_put n a0.f_Vols a1 _ hr2) (To.thenN (Wp.seq (rg [6,7,8] [6] [(6,.own 6 0),(7,vi 0),(8,vi r2.2)] [(6,30,[rs19 a0.f_Boxes,rs16 a0.f_Nets,rs16 r2.1,vi a0.f_Last])] (To.thenN (Wp.ret (To.thenR ?_))))))
   cases h
   exact To.done hΓ (by kernel_rfl)
  ·refine Wp.skip (To.thenN (Wp.seq (Wp.seq (rg [2,3,4,6,38] [3,4,6] [(2,vi a2),(3,.own 3 0),(4,.own 4 0),(6,.own 6 0),(38,vb (a1.f_Kind == 3))] [(3,30,qc20 a0),(4,40,(E_api_Call a1)),(6,30,[.val (.slice none 0 0),.val (.slice none 0 0),.val (.slice none 0 0),vi 0])] (To.thenN (cn h (fun h=>?_) (fun h=>?_)))))))
   ·refine Wp.seq ?_
    obtain ⟨r3,hr3,h⟩:=bind_of h
    refine rc [] 5 [3,6,9] [3,6] [(3,.own 3 0),(6,.own 6 0),(9,vi r3.2)] [(3,30,[rs19 a0.f_Boxes,rs16 r3.1,rs16 a0.f_Vols,vi a0.f_Last]),(6,30,[.val (.slice none 0 0),.val (.slice none 0 0),.val (.slice none 0 0),vi 0])] (ok_ref33_drop n a0 a0.f_Nets a1.f_Name true _ hr3) (To.thenN (Wp.seq (rg [6,7,8] [6] [(6,.own 6 0),(7,vi 0),(8,vi r3.2)] [(6,30,[rs19 a0.f_Boxes,rs16 r3.1,rs16 a0.f_Vols,vi a0.f_Last])] (To.thenN (Wp.ret (To.thenR ?_))))))
    cases h
    exact To.done hΓ (by kernel_rfl)
   ·refine Wp.skip (To.thenN (Wp.seq (Wp.seq (rg [2,3,4,6,53] [3,4,6] [(2,vi a2),(3,.own 3 0),(4,.own 4 0),(6,.own 6 0),(53,vb (a1.f_Kind == 4))] [(3,30,qc20 a0),(4,40,(E_api_Call a1)),(6,30,[.val (.slice none 0 0),.val (.slice none 0 0),.val (.slice none 0 0),vi 0])] (To.thenN (cn h (fun h=>?_) (fun h=>?_)))))))
    ·refine Wp.seq ?_
     obtain ⟨r4,hr4,h⟩:=bind_of h
     refine rc [] 5 [3,6,9] [3,6] [(3,.own 3 0),(6,.own 6 0),(9,vi r4.2)] [(3,30,[rs19 a0.f_Boxes,rs16 a0.f_Nets,rs16 r4.1,vi a0.f_Last]),(6,30,[.val (.slice none 0 0),.val (.slice none 0 0),.val (.slice none 0 0),vi 0])] (ok_ref33_drop n a0 a0.f_Vols a1.f_Name false _ hr4) (To.thenN (Wp.seq (rg [6,7,8] [6] [(6,.own 6 0),(7,vi 0),(8,vi r4.2)] [(6,30,[rs19 a0.f_Boxes,rs16 a0.f_Nets,rs16 r4.1,vi a0.f_Last])] (To.thenN (Wp.ret (To.thenR ?_))))))
     cases h
     exact To.done hΓ (by kernel_rfl)
    ·refine Wp.skip (To.thenN (Wp.seq (Wp.seq (rg [2,3,4,6,68] [3,4,6] [(2,vi a2),(3,.own 3 0),(4,.own 4 0),(6,.own 6 0),(68,vb (a1.f_Kind == 5))] [(3,30,qc20 a0),(4,40,(E_api_Call a1)),(6,30,[.val (.slice none 0 0),.val (.slice none 0 0),.val (.slice none 0 0),vi 0])] (To.thenN (cn h (fun h=>?_) (fun h=>?_)))))))
     ·refine Wp.seq ?_
      obtain ⟨r5,hr5,h⟩:=bind_of h
      refine rc [] 3 [6,7,8] [6] [(6,.own 6 0),(7,vi r5.2.1),(8,vi r5.2.2)] [(6,30,qc20 r5.1)] (ok_ref33_Store_make n a0 a1.f_Spec _ hr5) (To.thenN (Wp.ret (To.thenR ?_)))
      cases h
      exact To.done hΓ (by kernel_rfl)
     ·refine Wp.skip (To.thenN (Wp.seq (Wp.seq (rg [2,3,4,6,88] [3,4,6] [(2,vi a2),(3,.own 3 0),(4,.own 4 0),(6,.own 6 0),(88,vb (bif (bif (a1.f_Kind == 6) then true else (a1.f_Kind == 7)) then true else (a1.f_Kind == 8)))] [(3,30,qc20 a0),(4,40,(E_api_Call a1)),(6,30,[.val (.slice none 0 0),.val (.slice none 0 0),.val (.slice none 0 0),vi 0])] (To.thenN (cn h (fun h=>?_) (fun h=>?_)))))))
      ·refine Wp.seq ?_
       obtain ⟨r6,hr6,h⟩:=bind_of h
       refine rc [] 3 [6,7,8] [6] [(6,.own 6 0),(7,vi r6.2.1),(8,vi r6.2.2)] [(6,30,qc20 r6.1)] (ok_ref33_Store_change n a0 a1 a2 _ hr6) (To.thenN (Wp.ret (To.thenR ?_)))
       cases h
       exact To.done hΓ (by kernel_rfl)
      ·refine Wp.skip (To.thenN (Wp.seq (rg [6,7,8] [6] [(6,.own 6 0),(7,vi 0),(8,vi 2)] [(6,30,qc20 a0)] (To.thenN (Wp.ret ?_)))))
       cases h
       exact To.done hΓ (by kernel_rfl)
structure S_api_Container where
 f_Id:Int
 f_Spec:S_api_Spec
 f_State:Int
 f_Code:Int
 f_Health:Int
 f_Runs:Int
abbrev Z_api_Container:S_api_Container:=(S_api_Container.mk 0 Z_api_Spec 0 0 0 0)
def E_api_Container:S_api_Container → List D:=fun x=>[.val (.int .i64 x.f_Id),.str x.f_Spec.f_Name,.str x.f_Spec.f_Project,.str x.f_Spec.f_Service,.val (.int .i64 x.f_Spec.f_Number),.str x.f_Spec.f_Hash,.recs (α:=List UInt8) [] E_string x.f_Spec.f_Nets,.recs (α:=List UInt8) [] E_string x.f_Spec.f_Vols,.str x.f_Spec.f_Health.f_Test,.val (.int .i64 x.f_Spec.f_Health.f_Every),.val (.int .i64 x.f_Spec.f_Health.f_Start),.val (.int .i64 x.f_Spec.f_Health.f_Retries),.val (.int .i64 x.f_Spec.f_Restart),.val (.int .i64 x.f_Spec.f_Tries),.val (.int .i64 x.f_State),.val (.int .i64 x.f_Code),.val (.int .i64 x.f_Health),.val (.int .i64 x.f_Runs)]
def E_i64:Int → List D:=fun x=>[.val (.int .i64 x)]
theorem good_E_api_Container (l:List (S_api_Container)):GoodR (.recs Z_api_Container E_api_Container l):=⟨Nat.le_of_ble_eq_true (by kernel_rfl),fun _=>⟨rfl,rfl⟩⟩
def life_Seen_j1 (v17:Bool) (b1:S_life_Box) (b2:S_api_Container) (b3:S_api_Container):S_api_Container :=
 if v17 = true then ((S_api_Container.mk b3.f_Id b3.f_Spec b3.f_State b3.f_Code b1.f_Probe.f_Health b3.f_Runs))
 else b3
abbrev qc26 (x:S_api_Container):List D:=[vi x.f_Id,.str x.f_Spec.f_Name,.str x.f_Spec.f_Project,.str x.f_Spec.f_Service,vi x.f_Spec.f_Number,.str x.f_Spec.f_Hash,ls x.f_Spec.f_Nets,ls x.f_Spec.f_Vols,.str x.f_Spec.f_Health.f_Test,vi x.f_Spec.f_Health.f_Every,vi x.f_Spec.f_Health.f_Start,vi x.f_Spec.f_Health.f_Retries,vi x.f_Spec.f_Restart,vi x.f_Spec.f_Tries,vi x.f_State,vi x.f_Code,vi x.f_Health,vi x.f_Runs]
abbrev ex21 (x0:S_api_Container):Nat × Nat × List D:=(2,120,(E_api_Container x0))
theorem ok_life_Seen_j1 (v17:Bool) (b1:S_life_Box) (b2:S_api_Container) (b3:S_api_Container) (o:S_api_Container) (h:life_Seen_j1 v17 b1 b2 b3 = o) {F0:Fz} {w0:Pt Tryz.prog} {Q:Exit → Act → World → Prop} (hQ:To 23 F0 w0 [(2,.own 2 0),(3,.own 3 0)] [(ex21 b2),(3,120,qc26 o)] .normal Q):Wp Tryz.prog 23 F0 w0 [(1,.own 1 0),(2,.own 2 0),(3,.own 3 0),(17,vb v17)] [(1,53,(E_life_Box b1)),(ex21 b2),(3,120,(E_api_Container b3))] (cB (cA (cB (cB (cF Tryz.f63))))) Q:=by
 unfold life_Seen_j1 at h
 refine cn h (fun h=>?_) (fun h=>?_)
 ·refine rg [2,3] [2,3] [(2,.own 2 0),(3,.own 3 0)] [(ex21 b2),(3,120,(List.set (E_api_Container b3) 16 (vi b1.f_Probe.f_Health)))] (kt [2,3] [2,3] [(2,.own 2 0),(3,.own 3 0)] [(ex21 b2),(3,120,(List.set (E_api_Container b3) 16 (vi b1.f_Probe.f_Health)))] ?_)
  cases h
  exact hQ
 ·refine Wp.skip (kt [2,3] [2,3] [(2,.own 2 0),(3,.own 3 0)] [(ex21 b2),(3,120,(E_api_Container b3))] ?_)
  cases h
  exact hQ
def life_Seen (a0:S_life_Box):S_api_Container :=
 lett (life_Seen_j1 (a0.f_State == 2) a0 (S_api_Container.mk 0 (S_api_Spec.mk [] [] [] 0 [] [] [] (S_api_Check.mk [] 0 0 0) 0 0) 0 0 0 0) (S_api_Container.mk a0.f_Id a0.f_Spec a0.f_State a0.f_Code 0 a0.f_Runs)) fun o1 =>
 o1
abbrev ex22 (x0:S_life_Box):Nat × Nat × List D:=(3,120,[vi x0.f_Id,.str x0.f_Spec.f_Name,.str x0.f_Spec.f_Project,.str x0.f_Spec.f_Service,vi x0.f_Spec.f_Number,.str x0.f_Spec.f_Hash,ls x0.f_Spec.f_Nets,ls x0.f_Spec.f_Vols,.str x0.f_Spec.f_Health.f_Test,vi x0.f_Spec.f_Health.f_Every,vi x0.f_Spec.f_Health.f_Start,vi x0.f_Spec.f_Health.f_Retries,vi x0.f_Spec.f_Restart,vi x0.f_Spec.f_Tries,vi x0.f_State,vi x0.f_Code,vi 0,vi x0.f_Runs])
theorem ok_life_Seen (a0:S_life_Box) (r:S_api_Container) (h:life_Seen a0 = r):CallsX Tryz.prog 63 [.agg (qc8 a0)] (.agg (qc26 r)):=by
 unfold life_Seen at h
 refine xo Tryz.f63 rfl fun F0 w0 _=>?_
 refine Wp.seq (rg [1,2] [1,2] [(1,.own 1 0),(2,.own 2 0)] [(1,53,(E_life_Box a0)),(2,120,[vi 0,.str [],.str [],.str [],vi 0,.str [],.val (.slice none 0 0),.val (.slice none 0 0),.str [],vi 0,vi 0,vi 0,vi 0,vi 0,vi 0,vi 0,vi 0,vi 0])] (To.thenN (Wp.seq (rg [1,2,3] [1,2,3] [(1,.own 1 0),(2,.own 2 0),(3,.own 3 0)] [(1,53,(E_life_Box a0)),(2,120,[vi 0,.str [],.str [],.str [],vi 0,.str [],.val (.slice none 0 0),.val (.slice none 0 0),.str [],vi 0,vi 0,vi 0,vi 0,vi 0,vi 0,vi 0,vi 0,vi 0]),(ex22 a0)] (To.thenN (Wp.seq (Wp.seq (rg [1,2,3,17] [1,2,3] [(1,.own 1 0),(2,.own 2 0),(3,.own 3 0),(17,vb (a0.f_State == 2))] [(1,53,(E_life_Box a0)),(2,120,[vi 0,.str [],.str [],.str [],vi 0,.str [],.val (.slice none 0 0),.val (.slice none 0 0),.str [],vi 0,vi 0,vi 0,vi 0,vi 0,vi 0,vi 0,vi 0,vi 0]),(ex22 a0)] (To.thenN ?_)))))))))
 obtain ⟨o1,ho1,h⟩:=lett_of h
 refine kw [1,2,3,17] [1,2,3] [(1,.own 1 0),(2,.own 2 0),(3,.own 3 0),(17,vb (a0.f_State == 2))] [(1,53,(E_life_Box a0)),(2,120,[vi 0,.str [],.str [],.str [],vi 0,.str [],.val (.slice none 0 0),.val (.slice none 0 0),.str [],vi 0,vi 0,vi 0,vi 0,vi 0,vi 0,vi 0,vi 0,vi 0]),(ex22 a0)] (Wp.weak (K':=[(1,.own 1 0),(2,.own 2 0),(3,.own 3 0),(17,vb (a0.f_State == 2))]) (L':=[(1,53,(E_life_Box a0)),(2,120,[vi 0,.str [],.str [],.str [],vi 0,.str [],ls [],ls [],.str [],vi 0,vi 0,vi 0,vi 0,vi 0,vi 0,vi 0,vi 0,vi 0]),(ex22 a0)]) (.cons (.refl _) (.cons (.refl _) (.cons (.refl _) (.cons (.refl _) .nil)))) (.cons (.cons (.refl _) (.cons (.refl _) (.cons (.refl _) (.cons (.refl _) (.cons (.refl _) (.cons (.refl _) (.cons (.refl _) (.cons (.refl _) (.cons (.refl _) (.cons (.refl _) (.cons (.refl _) (.cons (.refl _) (.cons (.refl _) (.cons (.refl _) (.cons (.refl _) (.cons (.refl _) (.cons (.refl _) (.cons (.refl _) (.cons (.refl _) (.cons (.refl _) (.cons (.refl _) (.cons (.refl _) (.cons (.refl _) (.cons (.refl _) (.cons (.refl _) .nil))))))))))))))))))))))))) (.cons (.cons (.refl _) (.cons (.refl _) (.cons (.refl _) (.cons (.refl _) (.cons (.refl _) (.cons (.refl _) (.cons (.zero _ _) (.cons (.zero _ _) (.cons (.refl _) (.cons (.refl _) (.cons (.refl _) (.cons (.refl _) (.cons (.refl _) (.cons (.refl _) (.cons (.refl _) (.cons (.refl _) (.cons (.refl _) (.cons (.refl _) .nil)))))))))))))))))) (.cons (.cons (.refl _) (.cons (.refl _) (.cons (.refl _) (.cons (.refl _) (.cons (.refl _) (.cons (.refl _) (.cons (.refl _) (.cons (.refl _) (.cons (.refl _) (.cons (.refl _) (.cons (.refl _) (.cons (.refl _) (.cons (.refl _) (.cons (.refl _) (.cons (.refl _) (.cons (.refl _) (.cons (.refl _) (.cons (.refl _) .nil)))))))))))))))))) .nil))) (ok_life_Seen_j1 (a0.f_State == 2) a0 (S_api_Container.mk 0 (S_api_Spec.mk [] [] [] 0 [] [] [] zx13 0 0) 0 0 0 0) (S_api_Container.mk a0.f_Id a0.f_Spec a0.f_State a0.f_Code 0 a0.f_Runs) o1 ho1 (To.thenN (Wp.seq (rg [2] [2] [(2,.own 2 0)] [(2,120,(E_api_Container o1))] (To.thenN (Wp.ret ?_)))))))
 cases h
 exact To.done hΓ (by kernel_rfl)
def store_Store_Boxes__o0_l1 (n:Nat) (v14:List (Int)) (v15:Int) (b1000000:S_store_Store):Nat → (List (S_api_Container)) → Int → Option ((List (S_api_Container)))
 | 0,_,_=>none
 | k + 1,v3,v16=>if (decide (v16 < v15)) = true then (if (decide (0 ≤ v16 ∧ v16 < (List.length v14:Int))) = true then (lett (life_Seen (S_life_Box.mk (S_api_Spec.mk (((mlook b1000000.f_boxes (.inr ((v14)[Int.toNat v16]?.getD 0))).getD Z_life_Box).f_Spec.f_Name) (((mlook b1000000.f_boxes (.inr ((v14)[Int.toNat v16]?.getD 0))).getD Z_life_Box).f_Spec.f_Project) (((mlook b1000000.f_boxes (.inr ((v14)[Int.toNat v16]?.getD 0))).getD Z_life_Box).f_Spec.f_Service) (((mlook b1000000.f_boxes (.inr ((v14)[Int.toNat v16]?.getD 0))).getD Z_life_Box).f_Spec.f_Number) (((mlook b1000000.f_boxes (.inr ((v14)[Int.toNat v16]?.getD 0))).getD Z_life_Box).f_Spec.f_Hash) (((mlook b1000000.f_boxes (.inr ((v14)[Int.toNat v16]?.getD 0))).getD Z_life_Box).f_Spec.f_Nets) (((mlook b1000000.f_boxes (.inr ((v14)[Int.toNat v16]?.getD 0))).getD Z_life_Box).f_Spec.f_Vols) (S_api_Check.mk (((mlook b1000000.f_boxes (.inr ((v14)[Int.toNat v16]?.getD 0))).getD Z_life_Box).f_Spec.f_Health.f_Test) (((mlook b1000000.f_boxes (.inr ((v14)[Int.toNat v16]?.getD 0))).getD Z_life_Box).f_Spec.f_Health.f_Every) (((mlook b1000000.f_boxes (.inr ((v14)[Int.toNat v16]?.getD 0))).getD Z_life_Box).f_Spec.f_Health.f_Start) (((mlook b1000000.f_boxes (.inr ((v14)[Int.toNat v16]?.getD 0))).getD Z_life_Box).f_Spec.f_Health.f_Retries)) (((mlook b1000000.f_boxes (.inr ((v14)[Int.toNat v16]?.getD 0))).getD Z_life_Box).f_Spec.f_Restart) (((mlook b1000000.f_boxes (.inr ((v14)[Int.toNat v16]?.getD 0))).getD Z_life_Box).f_Spec.f_Tries)) (((mlook b1000000.f_boxes (.inr ((v14)[Int.toNat v16]?.getD 0))).getD Z_life_Box).f_Id) (((mlook b1000000.f_boxes (.inr ((v14)[Int.toNat v16]?.getD 0))).getD Z_life_Box).f_State) (((mlook b1000000.f_boxes (.inr ((v14)[Int.toNat v16]?.getD 0))).getD Z_life_Box).f_Code) (((mlook b1000000.f_boxes (.inr ((v14)[Int.toNat v16]?.getD 0))).getD Z_life_Box).f_Runs) (((mlook b1000000.f_boxes (.inr ((v14)[Int.toNat v16]?.getD 0))).getD Z_life_Box).f_Done) (((mlook b1000000.f_boxes (.inr ((v14)[Int.toNat v16]?.getD 0))).getD Z_life_Box).f_At) (((mlook b1000000.f_boxes (.inr ((v14)[Int.toNat v16]?.getD 0))).getD Z_life_Box).f_ByHand) (((mlook b1000000.f_boxes (.inr ((v14)[Int.toNat v16]?.getD 0))).getD Z_life_Box).f_Sick) (S_probe_State.mk (((mlook b1000000.f_boxes (.inr ((v14)[Int.toNat v16]?.getD 0))).getD Z_life_Box).f_Probe.f_Health) (((mlook b1000000.f_boxes (.inr ((v14)[Int.toNat v16]?.getD 0))).getD Z_life_Box).f_Probe.f_Fails) (((mlook b1000000.f_boxes (.inr ((v14)[Int.toNat v16]?.getD 0))).getD Z_life_Box).f_Probe.f_Began) (((mlook b1000000.f_boxes (.inr ((v14)[Int.toNat v16]?.getD 0))).getD Z_life_Box).f_Probe.f_Next)))) fun r2 =>
 (slices_Clone_string_string n r2.f_Spec.f_Nets).bind fun r3 =>
 (slices_Clone_string_string n r2.f_Spec.f_Vols).bind fun r4 =>
 if (decide ((List.length v3 + List.length ([(S_api_Container.mk r2.f_Id (S_api_Spec.mk r2.f_Spec.f_Name r2.f_Spec.f_Project r2.f_Spec.f_Service r2.f_Spec.f_Number r2.f_Spec.f_Hash r3 r4 r2.f_Spec.f_Health r2.f_Spec.f_Restart r2.f_Spec.f_Tries) r2.f_State r2.f_Code r2.f_Health r2.f_Runs)]:List (S_api_Container))) * (216 + 1) ≤ limit)) = true then (lett ((v3 ++ ([(S_api_Container.mk r2.f_Id (S_api_Spec.mk r2.f_Spec.f_Name r2.f_Spec.f_Project r2.f_Spec.f_Service r2.f_Spec.f_Number r2.f_Spec.f_Hash r3 r4 r2.f_Spec.f_Health r2.f_Spec.f_Restart r2.f_Spec.f_Tries) r2.f_State r2.f_Code r2.f_Health r2.f_Runs)]:List (S_api_Container))):List (S_api_Container)) fun x5 =>
 store_Store_Boxes__o0_l1 n v14 v15 b1000000 k x5 (IntKind.wrap .i64 (v16 + 1))) else none) else none)
 else some v3
abbrev rc27 (l:List (S_api_Container)):D:=.rowc false (α:=S_api_Container) Z_api_Container E_api_Container l
abbrev rs28 (l:List (Int)):D:=.recs (α:=Int) 0 E_i64 l
abbrev rs29 (l:List (S_api_Container)):D:=.recs (α:=S_api_Container) Z_api_Container E_api_Container l
abbrev ex23 (x0:S_store_Store) (x1:List (Int)) (x2:Int):=((mlook x0.f_boxes (.inr ((x1)[Int.toNat x2]?.getD 0))).getD Z_life_Box)
theorem ok_store_Store_Boxes__o0_l1 (n:Nat) (v14:List (Int)) (v15:Int) (b1000000:S_store_Store) {F0:Fz} {w0:Pt Tryz.prog} {Q:Exit → Act → World → Prop} (k:Nat):∀ (v3:List (S_api_Container)) (v16:Int) (o:(List (S_api_Container))),store_Store_Boxes__o0_l1 n v14 v15 b1000000 k v3 v16 = some o → To 45 F0 w0 [(3,.row 1003)] ((1003,120,[rc27 o])::qf5 1000000 1010060 1010061 1010062 b1000000) (.exit 0) Q → WL Tryz.prog 45 F0 w0 [(0,.own 1000000 0),(3,.row 1003),(14,rs28 v14),(15,vi v15),(16,vi v16)] ((1003,120,[rc27 v3])::qf5 1000000 1010060 1010061 1010062 b1000000) (cI (cI (cB (cA (cB (cB (cB (cF Tryz.f15)))))))) Q:=by
 induction k with
 | zero=>intro v3 v16 o h; cases h
 | succ k ih =>
  intro v3 v16 o h hQ
  rw [store_Store_Boxes__o0_l1] at h
  refine WL.round (Wp.seq (rg [0,3,14,15,16,17] [1003,1000000,1010060,1010061,1010062] [(0,.own 1000000 0),(3,.row 1003),(14,rs28 v14),(15,vi v15),(16,vi v16),(17,vb (decide (v16 < v15)))] ((1003,120,[rc27 v3])::qf5 1000000 1010060 1010061 1010062 b1000000) (To.thenN (Wp.seq (cn h (fun h=>?_) (fun h=>?_))))))
  ·refine Wp.skip (To.thenN (Wp.seq (Wp.block (Wp.seq ?_))))
   obtain ⟨hc7,h⟩:=chk_of h
   refine r0 [0,3,5,14,15,16] [1003,1000000,1010060,1010061,1010062] [(0,.own 1000000 0),(3,.row 1003),(5,vi ((v14)[Int.toNat v16]?.getD 0)),(14,rs28 v14),(15,vi v15),(16,vi v16)] ((1003,120,[rc27 v3])::qf5 1000000 1010060 1010061 1010062 b1000000) (AllP.cons hc7 AllP.nil) (To.thenN (Wp.seq ?_))
   obtain ⟨r2,hr2,h⟩:=lett_of h
   refine rr [] [(5,.agg [.str ((ex23 b1000000 v14 v16).f_Spec.f_Name),.str ((ex23 b1000000 v14 v16).f_Spec.f_Project),.str ((ex23 b1000000 v14 v16).f_Spec.f_Service),vi ((ex23 b1000000 v14 v16).f_Spec.f_Number),.str ((ex23 b1000000 v14 v16).f_Spec.f_Hash),ls ((ex23 b1000000 v14 v16).f_Spec.f_Nets),ls ((ex23 b1000000 v14 v16).f_Spec.f_Vols),.str ((ex23 b1000000 v14 v16).f_Spec.f_Health.f_Test),vi ((ex23 b1000000 v14 v16).f_Spec.f_Health.f_Every),vi ((ex23 b1000000 v14 v16).f_Spec.f_Health.f_Start),vi ((ex23 b1000000 v14 v16).f_Spec.f_Health.f_Retries),vi ((ex23 b1000000 v14 v16).f_Spec.f_Restart),vi ((ex23 b1000000 v14 v16).f_Spec.f_Tries),vi ((ex23 b1000000 v14 v16).f_Id),vi ((ex23 b1000000 v14 v16).f_State),vi ((ex23 b1000000 v14 v16).f_Code),vi ((ex23 b1000000 v14 v16).f_Runs),vi ((ex23 b1000000 v14 v16).f_Done),vi ((ex23 b1000000 v14 v16).f_At),vb ((ex23 b1000000 v14 v16).f_ByHand),vb ((ex23 b1000000 v14 v16).f_Sick),vi ((ex23 b1000000 v14 v16).f_Probe.f_Health),vi ((ex23 b1000000 v14 v16).f_Probe.f_Fails),vi ((ex23 b1000000 v14 v16).f_Probe.f_Began),vi ((ex23 b1000000 v14 v16).f_Probe.f_Next)]),(6,.agg (qc26 r2))] [] [0,3,6,14,15,16] [6,1003,1000000,1010060,1010061,1010062] [(0,.own 1000000 0),(3,.row 1003),(6,.own 6 0),(14,rs28 v14),(15,vi v15),(16,vi v16)] ((6,120,(E_api_Container r2))::(1003,120,[rc27 v3])::qf5 1000000 1010060 1010061 1010062 b1000000) [(true = true → LookOb true E_life_Box b1000000.f_boxes (.inr ((v14)[Int.toNat v16]?.getD 0)) [.str [],.str [],.str [],vi 0,.str [],.val (.slice none 0 0),.val (.slice none 0 0),.str [],vi 0,vi 0,vi 0,vi 0,vi 0,vi 0,vi 0,vi 0,vi 0,vi 0,vi 0,vb false,vb false,vi 0,vi 0,vi 0,vi 0] (.agg [.str ((ex23 b1000000 v14 v16).f_Spec.f_Name),.str ((ex23 b1000000 v14 v16).f_Spec.f_Project),.str ((ex23 b1000000 v14 v16).f_Spec.f_Service),vi ((ex23 b1000000 v14 v16).f_Spec.f_Number),.str ((ex23 b1000000 v14 v16).f_Spec.f_Hash),ls ((ex23 b1000000 v14 v16).f_Spec.f_Nets),ls ((ex23 b1000000 v14 v16).f_Spec.f_Vols),.str ((ex23 b1000000 v14 v16).f_Spec.f_Health.f_Test),vi ((ex23 b1000000 v14 v16).f_Spec.f_Health.f_Every),vi ((ex23 b1000000 v14 v16).f_Spec.f_Health.f_Start),vi ((ex23 b1000000 v14 v16).f_Spec.f_Health.f_Retries),vi ((ex23 b1000000 v14 v16).f_Spec.f_Restart),vi ((ex23 b1000000 v14 v16).f_Spec.f_Tries),vi ((ex23 b1000000 v14 v16).f_Id),vi ((ex23 b1000000 v14 v16).f_State),vi ((ex23 b1000000 v14 v16).f_Code),vi ((ex23 b1000000 v14 v16).f_Runs),vi ((ex23 b1000000 v14 v16).f_Done),vi ((ex23 b1000000 v14 v16).f_At),vb ((ex23 b1000000 v14 v16).f_ByHand),vb ((ex23 b1000000 v14 v16).f_Sick),vi ((ex23 b1000000 v14 v16).f_Probe.f_Health),vi ((ex23 b1000000 v14 v16).f_Probe.f_Fails),vi ((ex23 b1000000 v14 v16).f_Probe.f_Began),vi ((ex23 b1000000 v14 v16).f_Probe.f_Next)])),_] (AllP.cons (fun _=>⟨Z_life_Box,weaks_eq (ds:=[.str [],.str [],.str [],vi 0,.str [],.val (.slice none 0 0),.val (.slice none 0 0),.str [],vi 0,vi 0,vi 0,vi 0,vi 0,vi 0,vi 0,vi 0,vi 0,vi 0,vi 0,vb false,vb false,vi 0,vi 0,vi 0,vi 0]) (es:=[.str [],.str [],.str [],vi 0,.str [],ls [],ls [],.str [],vi 0,vi 0,vi 0,vi 0,vi 0,vi 0,vi 0,vi 0,vi 0,vi 0,vi 0,vb false,vb false,vi 0,vi 0,vi 0,vi 0]) (by kernel_rfl) (.cons (.refl _) (.cons (.refl _) (.cons (.refl _) (.cons (.refl _) (.cons (.refl _) (.cons (.zero _ _) (.cons (.zero _ _) (.cons (.refl _) (.cons (.refl _) (.cons (.refl _) (.cons (.refl _) (.cons (.refl _) (.cons (.refl _) (.cons (.refl _) (.cons (.refl _) (.cons (.refl _) (.cons (.refl _) (.cons (.refl _) (.cons (.refl _) (.cons (.refl _) (.cons (.refl _) (.cons (.refl _) (.cons (.refl _) (.cons (.refl _) (.cons (.refl _) .nil))))))))))))))))))))))))) (by kernel_rfl),by kernel_rfl⟩) (AllP.cons (c1 (ok_life_Seen (S_life_Box.mk (S_api_Spec.mk ((ex23 b1000000 v14 v16).f_Spec.f_Name) ((ex23 b1000000 v14 v16).f_Spec.f_Project) ((ex23 b1000000 v14 v16).f_Spec.f_Service) ((ex23 b1000000 v14 v16).f_Spec.f_Number) ((ex23 b1000000 v14 v16).f_Spec.f_Hash) ((ex23 b1000000 v14 v16).f_Spec.f_Nets) ((ex23 b1000000 v14 v16).f_Spec.f_Vols) (S_api_Check.mk ((ex23 b1000000 v14 v16).f_Spec.f_Health.f_Test) ((ex23 b1000000 v14 v16).f_Spec.f_Health.f_Every) ((ex23 b1000000 v14 v16).f_Spec.f_Health.f_Start) ((ex23 b1000000 v14 v16).f_Spec.f_Health.f_Retries)) ((ex23 b1000000 v14 v16).f_Spec.f_Restart) ((ex23 b1000000 v14 v16).f_Spec.f_Tries)) ((ex23 b1000000 v14 v16).f_Id) ((ex23 b1000000 v14 v16).f_State) ((ex23 b1000000 v14 v16).f_Code) ((ex23 b1000000 v14 v16).f_Runs) ((ex23 b1000000 v14 v16).f_Done) ((ex23 b1000000 v14 v16).f_At) ((ex23 b1000000 v14 v16).f_ByHand) ((ex23 b1000000 v14 v16).f_Sick) (S_probe_State.mk ((ex23 b1000000 v14 v16).f_Probe.f_Health) ((ex23 b1000000 v14 v16).f_Probe.f_Fails) ((ex23 b1000000 v14 v16).f_Probe.f_Began) ((ex23 b1000000 v14 v16).f_Probe.f_Next))) _ hr2)) AllP.nil)) ?_
   refine To.thenN (Wp.seq ?_)
   obtain ⟨r3,hr3,h⟩:=bind_of h
   obtain ⟨r4,hr4,h⟩:=bind_of h
   refine Wp.regionO hm hΓ [] [(3,ls r3),(7,ls r4)] [] [0,3,6,14,15,16,27,28,29,30,31,32,33,34,35,36,37,38] [6,1003,1000000,1010060,1010061,1010062] [0,3,6,14,15,16] [6,1003,1000000,1010060,1010061,1010062] (K':=[(0,.own 1000000 0),(3,.row 1003),(6,.own 6 0),(14,rs28 v14),(15,vi v15),(16,vi v16)]) (L':=((6,120,(List.set (List.set (E_api_Container r2) 6 (ls r3)) 7 (ls r4)))::(1003,120,[rc27 v3])::qf5 1000000 1010060 1010061 1010062 b1000000)) (ob:=[(true = true → CX Tryz.prog 64 [ls r2.f_Spec.f_Nets] (ls r3)),(true = true → CX Tryz.prog 64 [ls r2.f_Spec.f_Vols] (ls r4))]) (by kernel_rfl) (by kernel_rfl) (AllP.cons (fun _=>cx (ok_slices_Clone_string_string n r2.f_Spec.f_Nets _ hr3)) (AllP.cons (fun _=>cx (ok_slices_Clone_string_string n r2.f_Spec.f_Vols _ hr4)) AllP.nil)) (To.thenN ?_)
   obtain ⟨hc6,h⟩:=chk_of h
   obtain ⟨x5,hx5,h⟩:=lett_of h
   refine rr [] [(2,rs29 [(S_api_Container.mk r2.f_Id (S_api_Spec.mk r2.f_Spec.f_Name r2.f_Spec.f_Project r2.f_Spec.f_Service r2.f_Spec.f_Number r2.f_Spec.f_Hash r3 r4 r2.f_Spec.f_Health r2.f_Spec.f_Restart r2.f_Spec.f_Tries) r2.f_State r2.f_Code r2.f_Health r2.f_Runs)]),(3,rs29 (v3 ++ ([(S_api_Container.mk r2.f_Id (S_api_Spec.mk r2.f_Spec.f_Name r2.f_Spec.f_Project r2.f_Spec.f_Service r2.f_Spec.f_Number r2.f_Spec.f_Hash r3 r4 r2.f_Spec.f_Health r2.f_Spec.f_Restart r2.f_Spec.f_Tries) r2.f_State r2.f_Code r2.f_Health r2.f_Runs)]:List (S_api_Container))))] [] [0,3,14,15,16] [42,1000000,1010060,1010061,1010062] [(0,.own 1000000 0),(3,.row 42),(14,rs28 v14),(15,vi v15),(16,vi v16)] ((42,120,[rc27 (v3 ++ ([(S_api_Container.mk r2.f_Id (S_api_Spec.mk r2.f_Spec.f_Name r2.f_Spec.f_Project r2.f_Spec.f_Service r2.f_Spec.f_Number r2.f_Spec.f_Hash r3 r4 r2.f_Spec.f_Health r2.f_Spec.f_Restart r2.f_Spec.f_Tries) r2.f_State r2.f_Code r2.f_Health r2.f_Runs)]:List (S_api_Container)))])::qf5 1000000 1010060 1010061 1010062 b1000000) [(MkOb 18 [vi r2.f_Id,.str r2.f_Spec.f_Name,.str r2.f_Spec.f_Project,.str r2.f_Spec.f_Service,vi r2.f_Spec.f_Number,.str r2.f_Spec.f_Hash,ls r3,ls r4,.str r2.f_Spec.f_Health.f_Test,vi r2.f_Spec.f_Health.f_Every,vi r2.f_Spec.f_Health.f_Start,vi r2.f_Spec.f_Health.f_Retries,vi r2.f_Spec.f_Restart,vi r2.f_Spec.f_Tries,vi r2.f_State,vi r2.f_Code,vi r2.f_Health,vi r2.f_Runs] 1 (rs29 [(S_api_Container.mk r2.f_Id (S_api_Spec.mk r2.f_Spec.f_Name r2.f_Spec.f_Project r2.f_Spec.f_Service r2.f_Spec.f_Number r2.f_Spec.f_Hash r3 r4 r2.f_Spec.f_Health r2.f_Spec.f_Restart r2.f_Spec.f_Tries) r2.f_State r2.f_Code r2.f_Health r2.f_Runs)]) ∧ GoodR (rs29 [(S_api_Container.mk r2.f_Id (S_api_Spec.mk r2.f_Spec.f_Name r2.f_Spec.f_Project r2.f_Spec.f_Service r2.f_Spec.f_Number r2.f_Spec.f_Hash r3 r4 r2.f_Spec.f_Health r2.f_Spec.f_Restart r2.f_Spec.f_Tries) r2.f_State r2.f_Code r2.f_Health r2.f_Runs)])),_,(AppOb Z_api_Container E_api_Container v3 (List.flatMap E_api_Container ([(S_api_Container.mk r2.f_Id (S_api_Spec.mk r2.f_Spec.f_Name r2.f_Spec.f_Project r2.f_Spec.f_Service r2.f_Spec.f_Number r2.f_Spec.f_Hash r3 r4 r2.f_Spec.f_Health r2.f_Spec.f_Restart r2.f_Spec.f_Tries) r2.f_State r2.f_Code r2.f_Health r2.f_Runs)]:List (S_api_Container))) (List.length ([(S_api_Container.mk r2.f_Id (S_api_Spec.mk r2.f_Spec.f_Name r2.f_Spec.f_Project r2.f_Spec.f_Service r2.f_Spec.f_Number r2.f_Spec.f_Hash r3 r4 r2.f_Spec.f_Health r2.f_Spec.f_Restart r2.f_Spec.f_Tries) r2.f_State r2.f_Code r2.f_Health r2.f_Runs)]:List (S_api_Container))) (rs29 (v3 ++ ([(S_api_Container.mk r2.f_Id (S_api_Spec.mk r2.f_Spec.f_Name r2.f_Spec.f_Project r2.f_Spec.f_Service r2.f_Spec.f_Number r2.f_Spec.f_Hash r3 r4 r2.f_Spec.f_Health r2.f_Spec.f_Restart r2.f_Spec.f_Tries) r2.f_State r2.f_Code r2.f_Health r2.f_Runs)]:List (S_api_Container)))) ∧ GoodR (rs29 (v3 ++ ([(S_api_Container.mk r2.f_Id (S_api_Spec.mk r2.f_Spec.f_Name r2.f_Spec.f_Project r2.f_Spec.f_Service r2.f_Spec.f_Number r2.f_Spec.f_Hash r3 r4 r2.f_Spec.f_Health r2.f_Spec.f_Restart r2.f_Spec.f_Tries) r2.f_State r2.f_Code r2.f_Health r2.f_Runs)]:List (S_api_Container)))))] (AllP.cons (mkOb (by kernel_rfl) rfl (by kernel_rfl) (good_E_api_Container _)) (AllP.cons hc6 (AllP.cons (appOb rfl rfl (good_E_api_Container _)) AllP.nil))) (To.eq (K':=[(0,.own 1000000 0),(3,.row 42),(14,rs28 v14),(15,vi v15),(16,vi v16)]) (L':=((42,120,[rc27 x5])::qf5 1000000 1010060 1010061 1010062 b1000000)) (by cases hx5; rfl) (by cases hx5; rfl) (To.blockN (To.thenN (rg [0,3,14,15,16] [42,1000000,1010060,1010061,1010062] [(0,.own 1000000 0),(3,.row 42),(14,rs28 v14),(15,vi v15),(16,vi (IntKind.wrap .i64 (v16 + 1)))] ((42,120,[rc27 x5])::qf5 1000000 1010060 1010061 1010062 b1000000) (nt [0,3,14,15,16] [42,1000000,1010060,1010061,1010062] [(42,1003)] [0,3,14,15,16] [1003,1000000,1010060,1010061,1010062] [(0,.own 1000000 0),(3,.row 1003),(14,rs28 v14),(15,vi v15),(16,vi (IntKind.wrap .i64 (v16 + 1)))] ((1003,120,[rc27 x5])::qf5 1000000 1010060 1010061 1010062 b1000000) (To.again ?_))))))
   exact ih x5 (IntKind.wrap .i64 (v16 + 1)) _ h hQ
  ·refine Wp.exit (To.thenX (To.thenX (kt [3] [1003,1000000,1010060,1010061,1010062] [(3,.row 1003)] ((1003,120,[rc27 v3])::qf5 1000000 1010060 1010061 1010062 b1000000) ?_)))
   cases h
   exact hQ
def store_Store_Boxes__o0 (n:Nat) (h0:S_store_Store):Option ((List (S_api_Container)) × S_store_Store) :=
 if (keysOkI h0.f_boxes) = true then ((store_Store_Boxes__o0_l1 n (keysI h0.f_boxes) (List.length (keysI h0.f_boxes):Int) h0 n ([]:List (S_api_Container)) 0).bind fun o2 =>
 some (o2,h0)) else none
abbrev rc30 (l:List (S_api_Container)):D:=.rowc true (α:=S_api_Container) Z_api_Container E_api_Container l
theorem ok_store_Store_Boxes__o0 (n:Nat) (h0:S_store_Store) (r:(List (S_api_Container)) × S_store_Store) (h:store_Store_Boxes__o0 n h0 = some r):CallsB Tryz.prog 15 [.own 1000000 0] (qf5 1000000 1010060 1010061 1010062 h0) (rs29 r.1) (qf5 1000000 1010060 1010061 1010062 r.2):=by
 unfold store_Store_Boxes__o0 at h
 refine bo Tryz.f15 rfl fun F0 w0=>?_
 refine Wp.seq (rg [0] [1000000,1010060,1010061,1010062] [(0,.own 1000000 0)] (qf5 1000000 1010060 1010061 1010062 h0) (To.thenN (Wp.seq (Wp.seq (rg [0,8] [1000000,1010060,1010061,1010062] [(0,.own 1000000 0),(8,vb false)] (qf5 1000000 1010060 1010061 1010062 h0) (To.thenN (Wp.cond (b:=false) (by kernel_rfl) (fun hb=>by cases hb) (fun _=>(Wp.skip (To.thenN (Wp.seq ?_)))))))))))
 refine rg [0,3] [1000000,1010060,1010061,1010062] [(0,.own 1000000 0),(3,.val (.slice none 0 0))] (qf5 1000000 1010060 1010061 1010062 h0) (To.thenN (Wp.seq (Wp.seq ?_)))
 obtain ⟨u1,h⟩:=chk_of h
 refine rr [] [] [(4,⟨[(1000000,1010060)],[(1,13),(1000000,1010060)],[.mp 1000000],[(1000000,105,[mc3 h0.f_boxes])],.fn 97 [.own 1 0],[(1000000,105,[mc3 h0.f_boxes]),(1,105,[.mp 1000000])]⟩),(5,⟨[(1000000,1010060),(1000001,13)],[(1000000,1010060),(1000001,13)],[.fn 97 [.own 1000001 0]],[(1000000,105,[mc3 h0.f_boxes]),(1000001,105,[.mp 1000000])],rs28 (keysI h0.f_boxes),[(1000000,105,[mc3 h0.f_boxes]),(1000001,105,[.mp 1000000])]⟩)] [0,3,14,15,16] [1000000,1010060,1010061,1010062] [(0,.own 1000000 0),(3,.val (.slice none 0 0)),(14,rs28 (keysI h0.f_boxes)),(15,vi (List.length (keysI h0.f_boxes):Int)),(16,vi 0)] (qf5 1000000 1010060 1010061 1010062 h0) [CbOb (CallsB Tryz.prog) 62 [.mp 1010060] [some (105,[mc3 h0.f_boxes])] ⟨[(1000000,1010060)],[(1,13),(1000000,1010060)],[.mp 1000000],[(1000000,105,[mc3 h0.f_boxes])],.fn 97 [.own 1 0],[(1000000,105,[mc3 h0.f_boxes]),(1,105,[.mp 1000000])]⟩,CbOb (CallsB Tryz.prog) 61 [.fn 97 [.own 13 0]] [some (105,[mc3 h0.f_boxes]),some (105,[.mp 1010060])] ⟨[(1000000,1010060),(1000001,13)],[(1000000,1010060),(1000001,13)],[.fn 97 [.own 1000001 0]],[(1000000,105,[mc3 h0.f_boxes]),(1000001,105,[.mp 1000000])],rs28 (keysI h0.f_boxes),[(1000000,105,[mc3 h0.f_boxes]),(1000001,105,[.mp 1000000])]⟩] (AllP.cons (⟨Sh.keys62,by kernel_rfl,by kernel_rfl⟩) (AllP.cons (⟨Sh.sortedKeys61_97 u1,by kernel_rfl,by kernel_rfl⟩) AllP.nil)) ?_
 refine To.thenN (Wp.block ?_)
 obtain ⟨o2,ho2,h⟩:=bind_of h
 refine kw [0,3,14,15,16] [1000000,1010060,1010061,1010062] [(0,.own 1000000 0),(3,.val (.slice none 0 0)),(14,rs28 (keysI h0.f_boxes)),(15,vi (List.length (keysI h0.f_boxes):Int)),(16,vi 0)] (qf5 1000000 1010060 1010061 1010062 h0) (Wp.pre (St.vacant (t:=3) (k:=1003) (e:=120) (K':=[(0,.own 1000000 0),(3,.row 1003),(14,rs28 (keysI h0.f_boxes)),(15,vi (List.length (keysI h0.f_boxes):Int)),(16,vi 0)]) (good_E_api_Container _) (by decide) (by kernel_rfl) (by kernel_rfl)) (kw [0,3,14,15,16] [1003,1000000,1010060,1010061,1010062] [(0,.own 1000000 0),(3,.row 1003),(14,rs28 (keysI h0.f_boxes)),(15,vi (List.length (keysI h0.f_boxes):Int)),(16,vi 0)] ((1003,120,[rc27 []])::qf5 1000000 1010060 1010061 1010062 h0) (Wp.loopL (ok_store_Store_Boxes__o0_l1 n (keysI h0.f_boxes) (List.length (keysI h0.f_boxes):Int) h0 n ([]:List (S_api_Container)) 0 o2 ho2 (To.blockX (To.thenN (Wp.seq (rg [2] [1003,1000000,1010060,1010061,1010062] [(2,.row 1003)] ((1003,120,[rc27 o2])::qf5 1000000 1010060 1010061 1010062 h0) (To.thenN (Wp.ret ?_))))))))))
 refine To.pre (St.settle (ks:=[1003]) (kk:=[2]) (kl:=[1003,1000000,1010060,1010061,1010062]) (K':=[(2,.row 1003)]) (L':=((1003,120,[rc30 o2])::qf5 1000000 1010060 1010061 1010062 h0)) (by kernel_rfl)) (To.pre (St.sealK [2] (K':=[(2,rs29 o2)]) (by kernel_rfl)) ?_)
 cases h
 exact To.doneB hΓ [1000000,1010060,1010061,1010062] (by kernel_rfl) (by kernel_rfl)
def ref32_Seen_j1 (v3:Int) (v6:Bool) (b1:S_ref32_Box) (b2:S_api_Container):Int :=
 if v6 = true then b1.f_Probe.f_Health
 else v3
theorem ok_ref32_Seen_j1 (v3:Int) (v6:Bool) (b1:S_ref32_Box) (b2:S_api_Container) (o:Int) (h:ref32_Seen_j1 v3 v6 b1 b2 = o) {F0:Fz} {w0:Pt Tryz.prog} {Q:Exit → Act → World → Prop} (hQ:To 22 F0 w0 [(1,.own 1 0),(2,.own 2 0),(3,vi o)] [(1,132,(E_ref32_Box b1)),(ex21 b2)] .normal Q):Wp Tryz.prog 22 F0 w0 [(1,.own 1 0),(2,.own 2 0),(3,vi v3),(6,vb v6)] [(1,132,(E_ref32_Box b1)),(ex21 b2)] (cB (cA (cB (cB (cF Tryz.f65))))) Q:=by
 unfold ref32_Seen_j1 at h
 refine cn h (fun h=>?_) (fun h=>?_)
 ·refine rg [1,2,3] [1,2] [(1,.own 1 0),(2,.own 2 0),(3,vi b1.f_Probe.f_Health)] [(1,132,(E_ref32_Box b1)),(ex21 b2)] (kt [1,2,3] [1,2] [(1,.own 1 0),(2,.own 2 0),(3,vi b1.f_Probe.f_Health)] [(1,132,(E_ref32_Box b1)),(ex21 b2)] ?_)
  cases h
  exact hQ
 ·refine Wp.skip (kt [1,2,3] [1,2] [(1,.own 1 0),(2,.own 2 0),(3,vi v3)] [(1,132,(E_ref32_Box b1)),(ex21 b2)] ?_)
  cases h
  exact hQ
def ref32_Seen (a0:S_ref32_Box):S_api_Container :=
 lett (ref32_Seen_j1 0 (a0.f_State == 2) a0 (S_api_Container.mk 0 (S_api_Spec.mk [] [] [] 0 [] [] [] (S_api_Check.mk [] 0 0 0) 0 0) 0 0 0 0)) fun o1 =>
 (S_api_Container.mk a0.f_Id a0.f_Spec a0.f_State a0.f_Code o1 a0.f_Runs)
theorem ok_ref32_Seen (a0:S_ref32_Box) (r:S_api_Container) (h:ref32_Seen a0 = r):CallsX Tryz.prog 65 [.agg (qc21 a0)] (.agg (qc26 r)):=by
 unfold ref32_Seen at h
 refine xo Tryz.f65 rfl fun F0 w0 _=>?_
 refine Wp.seq (rg [1,2] [1,2] [(1,.own 1 0),(2,.own 2 0)] [(1,132,(E_ref32_Box a0)),(2,120,[vi 0,.str [],.str [],.str [],vi 0,.str [],.val (.slice none 0 0),.val (.slice none 0 0),.str [],vi 0,vi 0,vi 0,vi 0,vi 0,vi 0,vi 0,vi 0,vi 0])] (To.thenN (Wp.seq (rg [1,2,3] [1,2] [(1,.own 1 0),(2,.own 2 0),(3,vi 0)] [(1,132,(E_ref32_Box a0)),(2,120,[vi 0,.str [],.str [],.str [],vi 0,.str [],.val (.slice none 0 0),.val (.slice none 0 0),.str [],vi 0,vi 0,vi 0,vi 0,vi 0,vi 0,vi 0,vi 0,vi 0])] (To.thenN (Wp.seq (Wp.seq (rg [1,2,3,6] [1,2] [(1,.own 1 0),(2,.own 2 0),(3,vi 0),(6,vb (a0.f_State == 2))] [(1,132,(E_ref32_Box a0)),(2,120,[vi 0,.str [],.str [],.str [],vi 0,.str [],.val (.slice none 0 0),.val (.slice none 0 0),.str [],vi 0,vi 0,vi 0,vi 0,vi 0,vi 0,vi 0,vi 0,vi 0])] (To.thenN ?_)))))))))
 obtain ⟨o1,ho1,h⟩:=lett_of h
 refine kw [1,2,3,6] [1,2] [(1,.own 1 0),(2,.own 2 0),(3,vi 0),(6,vb (a0.f_State == 2))] [(1,132,(E_ref32_Box a0)),(2,120,[vi 0,.str [],.str [],.str [],vi 0,.str [],.val (.slice none 0 0),.val (.slice none 0 0),.str [],vi 0,vi 0,vi 0,vi 0,vi 0,vi 0,vi 0,vi 0,vi 0])] (Wp.weak (K':=[(1,.own 1 0),(2,.own 2 0),(3,vi 0),(6,vb (a0.f_State == 2))]) (L':=[(1,132,(E_ref32_Box a0)),(2,120,[vi 0,.str [],.str [],.str [],vi 0,.str [],ls [],ls [],.str [],vi 0,vi 0,vi 0,vi 0,vi 0,vi 0,vi 0,vi 0,vi 0])]) (.cons (.refl _) (.cons (.refl _) (.cons (.refl _) (.cons (.refl _) .nil)))) (.cons (.cons (.refl _) (.cons (.refl _) (.cons (.refl _) (.cons (.refl _) (.cons (.refl _) (.cons (.refl _) (.cons (.refl _) (.cons (.refl _) (.cons (.refl _) (.cons (.refl _) (.cons (.refl _) (.cons (.refl _) (.cons (.refl _) (.cons (.refl _) (.cons (.refl _) (.cons (.refl _) (.cons (.refl _) (.cons (.refl _) (.cons (.refl _) (.cons (.refl _) (.cons (.refl _) (.cons (.refl _) (.cons (.refl _) (.cons (.refl _) (.cons (.refl _) .nil))))))))))))))))))))))))) (.cons (.cons (.refl _) (.cons (.refl _) (.cons (.refl _) (.cons (.refl _) (.cons (.refl _) (.cons (.refl _) (.cons (.zero _ _) (.cons (.zero _ _) (.cons (.refl _) (.cons (.refl _) (.cons (.refl _) (.cons (.refl _) (.cons (.refl _) (.cons (.refl _) (.cons (.refl _) (.cons (.refl _) (.cons (.refl _) (.cons (.refl _) .nil)))))))))))))))))) .nil)) (ok_ref32_Seen_j1 0 (a0.f_State == 2) a0 (S_api_Container.mk 0 (S_api_Spec.mk [] [] [] 0 [] [] [] zx13 0 0) 0 0 0 0) o1 ho1 (To.thenN (Wp.seq (rg [2] [2] [(2,.own 2 0)] [(2,120,[vi a0.f_Id,.str a0.f_Spec.f_Name,.str a0.f_Spec.f_Project,.str a0.f_Spec.f_Service,vi a0.f_Spec.f_Number,.str a0.f_Spec.f_Hash,ls a0.f_Spec.f_Nets,ls a0.f_Spec.f_Vols,.str a0.f_Spec.f_Health.f_Test,vi a0.f_Spec.f_Health.f_Every,vi a0.f_Spec.f_Health.f_Start,vi a0.f_Spec.f_Health.f_Retries,vi a0.f_Spec.f_Restart,vi a0.f_Spec.f_Tries,vi a0.f_State,vi a0.f_Code,vi o1,vi a0.f_Runs])] (To.thenN (Wp.ret ?_)))))))
 cases h
 exact To.done hΓ (by kernel_rfl)
end Go.Proofs.YtaecmkldkljioaaGreat.M
