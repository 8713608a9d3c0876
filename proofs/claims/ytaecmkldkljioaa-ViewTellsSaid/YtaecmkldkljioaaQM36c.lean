import Derived.Test.YtaecmkldkljioaaQM36b
set_option linter.all false
namespace Go.Proofs.Ytaecmkldkljioaa.M
open Go.RowKit Go.Proofs.Ytaecmkldkljioaa.RX
set_option maxRecDepth 100000
theorem ok_ref36_Service_l1 (n:Nat) (v2:List UInt8) (v7:List (S_api_Container)) {F0:Fz} {w0:Pt Try.prog} {Q:Exit → Act → World → Prop} (k:Nat):∀ (v8:List (S_api_Container)) (v9:Int) (o:(List (S_api_Container))),ref36_Service_l1 n v2 v7 k v8 v9 = some o → To 36 F0 w0 [(8,.row 1008)] [(1008,49,[rc7 o])] (.exit 0) Q → WL Try.prog 36 F0 w0 [(2,.str v2),(7,rs2 v7),(8,.row 1008),(9,vi v9)] [(1008,49,[rc7 v8])] (cI (cI (cB (cA (cB (cB (cB (cF Try.f16)))))))) Q:=by
 induction k with
 | zero=>intro v8 v9 o h; cases h
 | succ k ih =>
  intro v8 v9 o h hQ
  rw [ref36_Service_l1] at h
  refine WL.round (Wp.seq (Wp.seq (rg [2,7,8,9,17] [1008] [(2,.str v2),(7,rs2 v7),(8,.row 1008),(9,vi v9),(17,vb (ex22 v9 v7))] [(1008,49,[rc7 v8])] (To.thenN (cn h (fun h=>?_) (fun h=>?_))))))
  ·refine Wp.skip (To.thenN (Wp.seq ?_))
   obtain ⟨o2,ho2,h⟩:=bind_of h
   refine kw [2,7,8,9] [1008] [(2,.str v2),(7,rs2 v7),(8,.row 1008),(9,vi v9)] [(1008,49,[rc7 v8])] (ok_ref36_Service_j2 n v2 v7 v8 v9 o2 ho2 (To.thenN (rg [2,7,8,9] [1008] [(2,.str v2),(7,rs2 v7),(8,.row 1008),(9,vi (IntKind.wrap .i64 (v9 + 1)))] [(1008,49,[rc7 o2])] (kt [2,7,8,9] [1008] [(2,.str v2),(7,rs2 v7),(8,.row 1008),(9,vi (IntKind.wrap .i64 (v9 + 1)))] [(1008,49,[rc7 o2])] (To.again ?_)))))
   exact ih o2 (IntKind.wrap .i64 (v9 + 1)) _ h hQ
  ·refine Wp.exit (To.thenX (To.thenX (kt [8] [1008] [(8,.row 1008)] [(1008,49,[rc7 v8])] ?_)))
   cases h
   exact hQ
def ref36_Service (n:Nat) (a0:S_ref36_Seen) (a1:List UInt8) (a2:List UInt8):Option ((List (S_api_Container))) :=
 (ref36_Mine n a0 a1).bind fun r1 =>
 (ref36_Service_l1 n a2 r1 n ([]:List (S_api_Container)) 0).bind fun o2 =>
 some o2
theorem ok_ref36_Service (n:Nat) (a0:S_ref36_Seen) (a1:List UInt8) (a2:List UInt8) (r:(List (S_api_Container))) (h:ref36_Service n a0 a1 a2 = some r):CallsX Try.prog 16 [.agg (qc4 a0),.str a1,.str a2] (rs2 r):=by
 unfold ref36_Service at h
 refine xo Try.f16 rfl fun F0 w0 _=>?_
 refine Wp.seq (rg [1,2,3] [3] [(1,.str a1),(2,.str a2),(3,.own 3 0)] [(3,25,qc4 a0)] (To.thenN (Wp.seq ?_)))
 obtain ⟨r1,hr1,h⟩:=bind_of h
 refine rc [] 2 [2,7] [] [(2,.str a2),(7,rs2 r1)] [] (ok_ref36_Mine n a0 a1 _ hr1) (To.thenN (Wp.seq (rr [] [(0,rs2 [])] [] [2,7,8] [13] [(2,.str a2),(7,rs2 r1),(8,.row 13)] [(13,49,[rc7 []])] [(MkOb 18 [] 0 (rs2 []) ∧ GoodR (rs2 []))] (AllP.cons (mkOb (by kernel_rfl) rfl (by kernel_rfl) (good_E_api_Container _)) AllP.nil) (To.thenN (Wp.seq (Wp.seq (rg [2,7,8,9] [13] [(2,.str a2),(7,rs2 r1),(8,.row 13),(9,vi 0)] [(13,49,[rc7 []])] (To.thenN (Wp.block ?_)))))))))
 obtain ⟨o2,ho2,h⟩:=bind_of h
 refine nw [2,7,8,9] [13] [(13,1008)] [2,7,8,9] [1008] [(2,.str a2),(7,rs2 r1),(8,.row 1008),(9,vi 0)] [(1008,49,[rc7 []])] (Wp.loopL (ok_ref36_Service_l1 n a2 r1 n ([]:List (S_api_Container)) 0 o2 ho2 (To.blockX (To.thenN (Wp.seq (rg [6] [1008] [(6,.row 1008)] [(1008,49,[rc7 o2])] (To.thenN (Wp.ret (To.pre (St.settle (ks:=[1008]) (kk:=[6]) (kl:=[1008]) (K':=[(6,.row 1008)]) (L':=[(1008,49,[rc9 o2])]) (by kernel_rfl)) (To.pre (St.sealK [6] (K':=[(6,rs2 o2)]) (by kernel_rfl)) ?_))))))))))
 cases h
 exact To.done hΓ (by kernel_rfl)
def ref22_Service_l1 (n:Nat) (v1:List UInt8) (b2:S_api_Project):Nat → Int → S_api_Service → Option (Sum (S_api_Service) (Bool × S_api_Service))
 | 0,_,_=>none
 | k + 1,v6,b4=>if (decide (v6 < (List.length b2.f_Services:Int))) = true then (if (decide (0 ≤ v6 ∧ v6 < (List.length b2.f_Services:Int))) = true then (if ((((b2.f_Services)[Int.toNat v6]?.getD Z_api_Service).f_Name) == v1) = true then (if (decide (0 ≤ v6 ∧ v6 < (List.length b2.f_Services:Int))) = true then (some (.inr (true,((b2.f_Services)[Int.toNat v6]?.getD Z_api_Service)))) else none)
 else (ref22_Service_l1 n v1 b2 k (IntKind.wrap .i64 (v6 + 1)) b4)) else none)
 else (some (.inl b4))
theorem ok_ref22_Service_l1 (n:Nat) (v1:List UInt8) (b2:S_api_Project) {F0:Fz} {w0:Pt Try.prog} {Q:Exit → Act → World → Prop} (k:Nat):∀ (v6:Int) (b4:S_api_Service) (o:Sum (S_api_Service) (Bool × S_api_Service)),ref22_Service_l1 n v1 b2 k v6 b4 = some o → (Sum.elim (fun s=>To 28 F0 w0 [(4,.own 4 0)] [(4,41,qc19 s)] (.exit 0) Q) (fun s=>To 28 F0 w0 [(4,.own 4 0),(5,vb s.1)] [(4,41,qc19 s.2)] .ret Q)) o → WL Try.prog 28 F0 w0 [(1,.str v1),(2,.own 2 0),(4,.own 4 0),(6,vi v6)] [(2,29,qc21 b2),(4,41,(E_api_Service b4))] (cI (cI (cB (cA (cB (cF Try.f47)))))) Q:=by
 induction k with
 | zero=>intro v6 b4 o h; cases h
 | succ k ih =>
  intro v6 b4 o h hQ
  rw [ref22_Service_l1] at h
  refine WL.round (Wp.seq (Wp.seq (rg [1,2,4,6,11] [2,4] [(1,.str v1),(2,.own 2 0),(4,.own 4 0),(6,vi v6),(11,vb (decide (v6 < (ex20 b2))))] [(2,29,qc21 b2),(4,41,(E_api_Service b4))] (To.thenN (cn h (fun h=>?_) (fun h=>?_))))))
  ·refine Wp.skip (To.thenN (Wp.seq (Wp.block (Wp.seq ?_))))
   obtain ⟨hc2,h⟩:=chk_of h
   refine r0 [1,2,4,6,21] [2,4] [(1,.str v1),(2,.own 2 0),(4,.own 4 0),(6,vi v6),(21,vb ((((b2.f_Services)[Int.toNat v6]?.getD Z_api_Service).f_Name) == v1))] [(2,29,qc21 b2),(4,41,(E_api_Service b4))] (AllP.cons hc2 AllP.nil) (To.thenN (cn h (fun h=>?_) (fun h=>?_)))
   ·refine Wp.seq ?_
    obtain ⟨hc1,h⟩:=chk_of h
    refine r0 [4,5] [4] [(4,.own 4 0),(5,vb true)] [(4,41,(E_api_Service ((b2.f_Services)[Int.toNat v6]?.getD Z_api_Service)))] (AllP.cons hc1 AllP.nil) (To.thenN (Wp.ret (To.blockR (To.thenR (To.thenR ?_)))))
    cases h
    exact hQ
   ·refine Wp.skip (To.blockN (To.thenN (rg [1,2,4,6] [2,4] [(1,.str v1),(2,.own 2 0),(4,.own 4 0),(ex23 v6)] [(2,29,qc21 b2),(4,41,(E_api_Service b4))] (kt [1,2,4,6] [2,4] [(1,.str v1),(2,.own 2 0),(4,.own 4 0),(ex23 v6)] [(2,29,qc21 b2),(4,41,(E_api_Service b4))] (To.again ?_)))))
    exact ih (IntKind.wrap .i64 (v6 + 1)) b4 _ h hQ
  ·refine Wp.exit (To.thenX (To.thenX (kt [4] [4] [(4,.own 4 0)] [(4,41,(E_api_Service b4))] ?_)))
   cases h
   exact hQ
def ref22_Service (n:Nat) (a0:S_api_Project) (a1:List UInt8):Option (S_api_Service × Bool) :=
 (ref22_Service_l1 n a1 a0 n 0 (S_api_Service.mk [] [] [] [] [] [] [] [] [] 0 (S_api_Check.mk [] 0 0 0) 0 0 0 0)).bind fun o1 =>
 (Sum.elim (fun o1=>some ((S_api_Service.mk [] [] [] [] [] [] [] [] [] 0 (S_api_Check.mk [] 0 0 0) 0 0 0 0),false)) (fun o1=>some (o1.2,o1.1))) o1
theorem ok_ref22_Service (n:Nat) (a0:S_api_Project) (a1:List UInt8) (r:S_api_Service × Bool) (h:ref22_Service n a0 a1 = some r):CallsX Try.prog 47 [.agg (qc21 a0),.str a1] (.tup [.agg (qc19 r.1),vb r.2]):=by
 unfold ref22_Service at h
 refine xo Try.f47 rfl fun F0 w0 _=>?_
 refine Wp.seq (rg [1,2,4] [2,4] [(1,.str a1),(2,.own 2 0),(4,.own 4 0)] [(2,29,qc21 a0),(4,41,[.str [],.str [],.val (.slice none 0 0),.val (.slice none 0 0),.val (.slice none 0 0),.val (.slice none 0 0),.val (.slice none 0 0),.val (.slice none 0 0),.val (.slice none 0 0),vi 0,.str [],vi 0,vi 0,vi 0,vi 0,vi 0,vi 0,vi 0])] (To.thenN (Wp.seq (Wp.seq (rg [1,2,4,6] [2,4] [(1,.str a1),(2,.own 2 0),(4,.own 4 0),(6,vi 0)] [(2,29,qc21 a0),(4,41,[.str [],.str [],.val (.slice none 0 0),.val (.slice none 0 0),.val (.slice none 0 0),.val (.slice none 0 0),.val (.slice none 0 0),.val (.slice none 0 0),.val (.slice none 0 0),vi 0,.str [],vi 0,vi 0,vi 0,vi 0,vi 0,vi 0,vi 0])] (To.thenN (Wp.block ?_)))))))
 obtain ⟨o1,ho1,h⟩:=bind_of h
 refine kw [1,2,4,6] [2,4] [(1,.str a1),(2,.own 2 0),(4,.own 4 0),(6,vi 0)] [(2,29,qc21 a0),(4,41,[.str [],.str [],.val (.slice none 0 0),.val (.slice none 0 0),.val (.slice none 0 0),.val (.slice none 0 0),.val (.slice none 0 0),.val (.slice none 0 0),.val (.slice none 0 0),vi 0,.str [],vi 0,vi 0,vi 0,vi 0,vi 0,vi 0,vi 0])] (Wp.weak (K':=[(1,.str a1),(2,.own 2 0),(4,.own 4 0),(6,vi 0)]) (L':=[(2,29,qc21 a0),(4,41,[.str [],.str [],ls [],rs14 [],rs14 [],rs15 [],rs16 [],ls [],rs17 [],vi 0,.str [],vi 0,vi 0,vi 0,vi 0,vi 0,vi 0,vi 0])]) (.cons (.refl _) (.cons (.refl _) (.cons (.refl _) (.cons (.refl _) .nil)))) (.cons (.cons (.refl _) (.cons (.refl _) (.cons (.refl _) (.cons (.refl _) .nil)))) (.cons (.cons (.refl _) (.cons (.refl _) (.cons (.zero _ _) (.cons (.zero _ _) (.cons (.zero _ _) (.cons (.zero _ _) (.cons (.zero _ _) (.cons (.zero _ _) (.cons (.zero _ _) (.cons (.refl _) (.cons (.refl _) (.cons (.refl _) (.cons (.refl _) (.cons (.refl _) (.cons (.refl _) (.cons (.refl _) (.cons (.refl _) (.cons (.refl _) .nil)))))))))))))))))) .nil)) (Wp.loopL (ok_ref22_Service_l1 n a1 a0 n 0 (S_api_Service.mk [] [] [] [] [] [] [] [] [] 0 zx20 0 0 0 0) o1 ho1 ?_)))
 rcases o1 with o1 | o1
 ·replace h:=sum_l h
  refine To.blockX (To.thenN (Wp.seq (rg [4,5] [4] [(4,.own 4 0),(5,vb false)] [(4,41,[.str [],.str [],.val (.slice none 0 0),.val (.slice none 0 0),.val (.slice none 0 0),.val (.slice none 0 0),.val (.slice none 0 0),.val (.slice none 0 0),.val (.slice none 0 0),vi 0,.str [],vi 0,vi 0,vi 0,vi 0,vi 0,vi 0,vi 0])] (To.thenN (Wp.ret (To.weak (K':=[(4,.own 4 0),(5,vb false)]) (L':=[(4,41,[.str [],.str [],ls [],rs14 [],rs14 [],rs15 [],rs16 [],ls [],rs17 [],vi 0,.str [],vi 0,vi 0,vi 0,vi 0,vi 0,vi 0,vi 0])]) (.cons (.refl _) (.cons (.refl _) .nil)) (.cons (.cons (.refl _) (.cons (.refl _) (.cons (.zero _ _) (.cons (.zero _ _) (.cons (.zero _ _) (.cons (.zero _ _) (.cons (.zero _ _) (.cons (.zero _ _) (.cons (.zero _ _) (.cons (.refl _) (.cons (.refl _) (.cons (.refl _) (.cons (.refl _) (.cons (.refl _) (.cons (.refl _) (.cons (.refl _) (.cons (.refl _) (.cons (.refl _) .nil)))))))))))))))))) .nil) ?_))))))
  cases h
  exact To.done hΓ (by kernel_rfl)
 ·replace h:=sum_r h
  refine To.blockR (To.thenR ?_)
  cases h
  exact To.done hΓ (by kernel_rfl)
def ref36_Orphans_j2 (n:Nat) (v5:List (S_api_Container)) (v6:List (S_api_Container)) (v7:Int) (b3:S_api_Project):Option ((List (S_api_Container))) :=
 if (decide (0 ≤ v7 ∧ v7 < (List.length v5:Int))) = true then ((ref22_Service n b3 (((v5)[Int.toNat v7]?.getD Z_api_Container).f_Spec.f_Service)).bind fun r2 =>
 if (!r2.2) = true then (if (decide (0 ≤ v7 ∧ v7 < (List.length v5:Int))) = true then (if (decide ((List.length v6 + List.length ([((v5)[Int.toNat v7]?.getD Z_api_Container)]:List (S_api_Container))) * (216 + 1) ≤ limit)) = true then (some (v6 ++ ([((v5)[Int.toNat v7]?.getD Z_api_Container)]:List (S_api_Container)))) else none) else none)
 else some v6) else none
theorem ok_ref36_Orphans_j2 (n:Nat) (v5:List (S_api_Container)) (v6:List (S_api_Container)) (v7:Int) (b3:S_api_Project) (o:(List (S_api_Container))) (h:ref36_Orphans_j2 n v5 v6 v7 b3 = some o) {F0:Fz} {w0:Pt Try.prog} {Q:Exit → Act → World → Prop} (hQ:To 42 F0 w0 [(3,.own 3 0),(5,rs2 v5),(6,.row 1006),(7,vi v7)] [(3,29,qc21 b3),(1006,49,[rc7 o])] .normal Q):Wp Try.prog 42 F0 w0 [(3,.own 3 0),(5,rs2 v5),(6,.row 1006),(7,vi v7)] [(3,29,qc21 b3),(1006,49,[rc7 v6])] (cA (cB (cI (cI (cB (cA (cB (cB (cB (cF Try.f17)))))))))) Q:=by
 unfold ref36_Orphans_j2 at h
 refine Wp.block (Wp.seq ?_)
 obtain ⟨hc5,h⟩:=chk_of h
 obtain ⟨r2,hr2,h⟩:=bind_of h
 refine Wp.regionD hm hΓ [(7,.tup [.agg (qc19 r2.1),vb r2.2])] [3,5,6,7,9] [3,1006] (K':=[(3,.own 3 0),(5,rs2 v5),(6,.row 1006),(7,vi v7),(9,vb r2.2)]) (L':=[(3,29,qc21 b3),(1006,49,[rc7 v6])]) (ob:=[(ex7 v7 v5) = true,(true = true → CX Try.prog 47 [.agg (qc21 b3),.str (ex37 v5 v7)] (.tup [.agg (qc19 r2.1),vb r2.2]))]) (by kernel_rfl) (AllP.cons hc5 (AllP.cons (fun _=>cx (ok_ref22_Service n b3 (ex37 v5 v7) _ hr2)) AllP.nil)) (To.thenN (Wp.seq (rg [3,5,6,7,33] [3,1006] [(3,.own 3 0),(5,rs2 v5),(6,.row 1006),(7,vi v7),(33,vb (!r2.2))] [(3,29,qc21 b3),(1006,49,[rc7 v6])] (To.thenN (cn h (fun h=>?_) (fun h=>?_))))))
 ·obtain ⟨hc3,h⟩:=chk_of h
  obtain ⟨hc4,h⟩:=chk_of h
  refine rr [] [(5,rs2 ([(ex6 v5 v7)])),(6,rs2 (v6 ++ (ex32 v5 v7)))] [] [3,5,6,7] [3,40] [(3,.own 3 0),(5,rs2 v5),(6,.row 40),(7,vi v7)] [(3,29,qc21 b3),(40,49,[rc7 (v6 ++ (ex32 v5 v7))])] [_,(MkOb 18 [vi ((ex6 v5 v7).f_Id),.str ((ex6 v5 v7).f_Spec.f_Name),.str (ex38 v5 v7),.str (ex37 v5 v7),vi ((ex6 v5 v7).f_Spec.f_Number),.str ((ex6 v5 v7).f_Spec.f_Hash),ls ((ex6 v5 v7).f_Spec.f_Nets),ls ((ex6 v5 v7).f_Spec.f_Vols),.str (ex36 v5 v7),vi (ex34 v5 v7),vi (ex35 v5 v7),vi (ex33 v5 v7),vi (ex39 v5 v7),vi ((ex6 v5 v7).f_Spec.f_Tries),vi ((ex6 v5 v7).f_State),vi ((ex6 v5 v7).f_Code),vi ((ex6 v5 v7).f_Health),vi ((ex6 v5 v7).f_Runs)] 1 (rs2 ([(ex6 v5 v7)])) ∧ GoodR (rs2 ([(ex6 v5 v7)]))),_,(ex45 v6 v5 v7)] (AllP.cons hc3 (AllP.cons (mkOb (by kernel_rfl) rfl (by kernel_rfl) (good_E_api_Container _)) (AllP.cons hc4 (AllP.cons (appOb rfl rfl (good_E_api_Container _)) AllP.nil)))) (To.blockN (nt [3,5,6,7] [3,40] [(40,1006)] [3,5,6,7] [3,1006] [(3,.own 3 0),(5,rs2 v5),(6,.row 1006),(7,vi v7)] [(3,29,qc21 b3),(1006,49,[rc7 (v6 ++ (ex32 v5 v7))])] ?_))
  cases h
  exact hQ
 ·refine Wp.skip (To.blockN (kt [3,5,6,7] [3,1006] [(3,.own 3 0),(5,rs2 v5),(6,.row 1006),(7,vi v7)] [(3,29,qc21 b3),(1006,49,[rc7 v6])] ?_))
  cases h
  exact hQ
def ref36_Orphans_l1 (n:Nat) (v5:List (S_api_Container)) (b3:S_api_Project):Nat → (List (S_api_Container)) → Int → Option ((List (S_api_Container)))
 | 0,_,_=>none
 | k + 1,v6,v7=>if (decide (v7 < (List.length v5:Int))) = true then ((ref36_Orphans_j2 n v5 v6 v7 b3).bind fun o2 =>
 ref36_Orphans_l1 n v5 b3 k o2 (IntKind.wrap .i64 (v7 + 1)))
 else some v6
theorem ok_ref36_Orphans_l1 (n:Nat) (v5:List (S_api_Container)) (b3:S_api_Project) {F0:Fz} {w0:Pt Try.prog} {Q:Exit → Act → World → Prop} (k:Nat):∀ (v6:List (S_api_Container)) (v7:Int) (o:(List (S_api_Container))),ref36_Orphans_l1 n v5 b3 k v6 v7 = some o → To 42 F0 w0 [(6,.row 1006)] [(1006,49,[rc7 o])] (.exit 0) Q → WL Try.prog 42 F0 w0 [(3,.own 3 0),(5,rs2 v5),(6,.row 1006),(7,vi v7)] [(3,29,qc21 b3),(1006,49,[rc7 v6])] (cI (cI (cB (cA (cB (cB (cB (cF Try.f17)))))))) Q:=by
 induction k with
 | zero=>intro v6 v7 o h; cases h
 | succ k ih =>
  intro v6 v7 o h hQ
  rw [ref36_Orphans_l1] at h
  refine WL.round (Wp.seq (Wp.seq (rg [3,5,6,7,18] [3,1006] [(3,.own 3 0),(5,rs2 v5),(6,.row 1006),(7,vi v7),(18,vb (ex22 v7 v5))] [(3,29,qc21 b3),(1006,49,[rc7 v6])] (To.thenN (cn h (fun h=>?_) (fun h=>?_))))))
  ·refine Wp.skip (To.thenN (Wp.seq ?_))
   obtain ⟨o2,ho2,h⟩:=bind_of h
   refine kw [3,5,6,7] [3,1006] [(3,.own 3 0),(5,rs2 v5),(6,.row 1006),(7,vi v7)] [(3,29,qc21 b3),(1006,49,[rc7 v6])] (ok_ref36_Orphans_j2 n v5 v6 v7 b3 o2 ho2 (To.thenN (rg [3,5,6,7] [3,1006] [(3,.own 3 0),(5,rs2 v5),(6,.row 1006),(7,vi (IntKind.wrap .i64 (v7 + 1)))] [(3,29,qc21 b3),(1006,49,[rc7 o2])] (kt [3,5,6,7] [3,1006] [(3,.own 3 0),(5,rs2 v5),(6,.row 1006),(7,vi (IntKind.wrap .i64 (v7 + 1)))] [(3,29,qc21 b3),(1006,49,[rc7 o2])] (To.again ?_)))))
   exact ih o2 (IntKind.wrap .i64 (v7 + 1)) _ h hQ
  ·refine Wp.exit (To.thenX (To.thenX (kt [6] [1006] [(6,.row 1006)] [(1006,49,[rc7 v6])] ?_)))
   cases h
   exact hQ
def ref36_Orphans (n:Nat) (a0:S_ref36_Seen) (a1:S_api_Project):Option ((List (S_api_Container))) :=
 (ref36_Mine n a0 a1.f_Name).bind fun r1 =>
 (ref36_Orphans_l1 n r1 a1 n ([]:List (S_api_Container)) 0).bind fun o2 =>
 some o2
theorem ok_ref36_Orphans (n:Nat) (a0:S_ref36_Seen) (a1:S_api_Project) (r:(List (S_api_Container))) (h:ref36_Orphans n a0 a1 = some r):CallsX Try.prog 17 [.agg (qc4 a0),.agg (qc21 a1)] (rs2 r):=by
 unfold ref36_Orphans at h
 refine xo Try.f17 rfl fun F0 w0 _=>?_
 refine Wp.seq (rg [2,3] [2,3] [(2,.own 2 0),(3,.own 3 0)] [(2,25,qc4 a0),(3,29,qc21 a1)] (To.thenN (Wp.seq ?_)))
 obtain ⟨r1,hr1,h⟩:=bind_of h
 refine rc [] 3 [3,5] [3] [(3,.own 3 0),(5,rs2 r1)] [(3,29,qc21 a1)] (ok_ref36_Mine n a0 a1.f_Name _ hr1) (To.thenN (Wp.seq (rr [] [(0,rs2 [])] [] [3,5,6] [3,14] [(3,.own 3 0),(5,rs2 r1),(6,.row 14)] [(3,29,qc21 a1),(14,49,[rc7 []])] [(MkOb 18 [] 0 (rs2 []) ∧ GoodR (rs2 []))] (AllP.cons (mkOb (by kernel_rfl) rfl (by kernel_rfl) (good_E_api_Container _)) AllP.nil) (To.thenN (Wp.seq (Wp.seq (rg [3,5,6,7] [3,14] [(3,.own 3 0),(5,rs2 r1),(6,.row 14),(7,vi 0)] [(3,29,qc21 a1),(14,49,[rc7 []])] (To.thenN (Wp.block ?_)))))))))
 obtain ⟨o2,ho2,h⟩:=bind_of h
 refine nw [3,5,6,7] [3,14] [(14,1006)] [3,5,6,7] [3,1006] [(3,.own 3 0),(5,rs2 r1),(6,.row 1006),(7,vi 0)] [(3,29,qc21 a1),(1006,49,[rc7 []])] (Wp.loopL (ok_ref36_Orphans_l1 n r1 a1 n ([]:List (S_api_Container)) 0 o2 ho2 (To.blockX (To.thenN (Wp.seq (rg [4] [1006] [(4,.row 1006)] [(1006,49,[rc7 o2])] (To.thenN (Wp.ret (To.pre (St.settle (ks:=[1006]) (kk:=[4]) (kl:=[1006]) (K':=[(4,.row 1006)]) (L':=[(1006,49,[rc9 o2])]) (by kernel_rfl)) (To.pre (St.sealK [4] (K':=[(4,rs2 o2)]) (by kernel_rfl)) ?_))))))))))
 cases h
 exact To.done hΓ (by kernel_rfl)
theorem good_E_api_Kept (l:List (S_api_Kept)):GoodR (.recs (S_api_Kept.mk [] []) E_api_Kept l):=⟨Nat.le_of_ble_eq_true (by kernel_rfl),fun _=>⟨rfl,rfl⟩⟩
def view_names_1__e (a0:S_api_Kept) (c0:List UInt8):Bool :=
 (a0.f_Project == c0)
abbrev qc24 (x:S_api_Kept):List D:=[.str x.f_Name,.str x.f_Project]
theorem ok_view_names_1__e (a0:S_api_Kept) (c0:List UInt8) (r:Bool) (h:view_names_1__e a0 c0 = r):CallsX Try.prog 73 [.agg (qc24 a0),.el [.str c0]] (vb r):=by
 unfold view_names_1__e at h
 refine xo Try.f73 rfl fun F0 w0 _=>?_
 refine Wp.seq (rg [1,2] [2] [(1,.el [.str c0]),(2,.own 2 0)] [(2,78,qc24 a0)] (To.thenN (Wp.seq (rg [3] [] [(3,vb (a0.f_Project == c0))] [] (To.thenN (Wp.ret ?_))))))
 cases h
 exact To.done hΓ (by kernel_rfl)
def view_those_api_Kept__view_names_1_e_j2 (n:Nat) (v1_0:List UInt8) (v5:List (S_api_Kept)) (v8:List (S_api_Kept)) (v9:Int) (v10:Int):Option ((List (S_api_Kept))) :=
 if (decide (0 ≤ v10 ∧ v10 < (List.length v8:Int))) = true then (lett (view_names_1__e ((v8)[Int.toNat v10]?.getD (S_api_Kept.mk [] [])) v1_0) fun r1 =>
 if r1 = true then (if (decide ((List.length v5 + List.length ([((v8)[Int.toNat v10]?.getD (S_api_Kept.mk [] []))]:List (S_api_Kept))) * (32 + 1) ≤ limit)) = true then (some (v5 ++ ([((v8)[Int.toNat v10]?.getD (S_api_Kept.mk [] []))]:List (S_api_Kept)))) else none)
 else some v5) else none
abbrev rc25 (l:List (S_api_Kept)):D:=.rowc false (α:=S_api_Kept) zx1 E_api_Kept l
abbrev ex25 (x0:List (S_api_Kept)) (x1:Int):=((x0)[Int.toNat x1]?.getD zx1)
abbrev ex26 (x0:Int) (x1:List (S_api_Kept)):=(decide (0 ≤ x0 ∧ x0 < (List.length x1:Int)))
abbrev ex44 (x0:List (S_api_Kept)) (x1:Int):=([(ex25 x0 x1)]:List (S_api_Kept))
theorem ok_view_those_api_Kept__view_names_1_e_j2 (n:Nat) (v1_0:List UInt8) (v5:List (S_api_Kept)) (v8:List (S_api_Kept)) (v9:Int) (v10:Int) (o:(List (S_api_Kept))) (h:view_those_api_Kept__view_names_1_e_j2 n v1_0 v5 v8 v9 v10 = some o) {F0:Fz} {w0:Pt Try.prog} {Q:Exit → Act → World → Prop} (hQ:To 23 F0 w0 [(1,.fn 73 [.el [.str v1_0]]),(5,.row 1005),(8,rs3 v8),(9,vi v9),(10,vi v10)] [(1005,78,[rc25 o])] .normal Q):Wp Try.prog 23 F0 w0 [(1,.fn 73 [.el [.str v1_0]]),(5,.row 1005),(8,rs3 v8),(9,vi v9),(10,vi v10)] [(1005,78,[rc25 v5])] (cA (cB (cB (cI (cI (cB (cA (cB (cB (cF Try.f72)))))))))) Q:=by
 unfold view_those_api_Kept__view_names_1_e_j2 at h
 refine Wp.block (Wp.seq ?_)
 obtain ⟨hc3,h⟩:=chk_of h
 refine r0 [1,5,7,8,9,10] [7,1005] [(1,.fn 73 [.el [.str v1_0]]),(5,.row 1005),(7,.own 7 0),(8,rs3 v8),(9,vi v9),(10,vi v10)] [(7,78,[.str ((ex25 v8 v10).f_Name),.str ((ex25 v8 v10).f_Project)]),(1005,78,[rc25 v5])] (AllP.cons hc3 AllP.nil) (To.thenN (Wp.seq ?_))
 obtain ⟨r1,hr1,h⟩:=lett_of h
 refine rc [] 2 [1,5,7,8,9,10,16] [7,1005] [(1,.fn 73 [.el [.str v1_0]]),(5,.row 1005),(7,.own 7 0),(8,rs3 v8),(9,vi v9),(10,vi v10),(16,vb r1)] [(7,78,[.str ((ex25 v8 v10).f_Name),.str ((ex25 v8 v10).f_Project)]),(1005,78,[rc25 v5])] (ok_view_names_1__e (ex25 v8 v10) v1_0 _ hr1) (To.thenN (cn h (fun h=>?_) (fun h=>?_)))
 ·obtain ⟨hc2,h⟩:=chk_of h
  refine rr [] [(2,rs3 ([(ex25 v8 v10)])),(3,rs3 (v5 ++ (ex44 v8 v10)))] [] [1,5,8,9,10] [20] [(1,.fn 73 [.el [.str v1_0]]),(5,.row 20),(8,rs3 v8),(9,vi v9),(10,vi v10)] [(20,78,[rc25 (v5 ++ (ex44 v8 v10))])] [(MkOb 2 [.str ((ex25 v8 v10).f_Name),.str ((ex25 v8 v10).f_Project)] 1 (rs3 ([(ex25 v8 v10)])) ∧ GoodR (rs3 ([(ex25 v8 v10)]))),_,(AppOb zx1 E_api_Kept v5 (List.flatMap E_api_Kept (ex44 v8 v10)) (List.length (ex44 v8 v10)) (rs3 (v5 ++ (ex44 v8 v10))) ∧ GoodR (rs3 (v5 ++ (ex44 v8 v10))))] (AllP.cons (mkOb (by kernel_rfl) rfl (by kernel_rfl) (good_E_api_Kept _)) (AllP.cons hc2 (AllP.cons (appOb rfl rfl (good_E_api_Kept _)) AllP.nil))) (To.blockN (nt [1,5,8,9,10] [20] [(20,1005)] [1,5,8,9,10] [1005] [(1,.fn 73 [.el [.str v1_0]]),(5,.row 1005),(8,rs3 v8),(9,vi v9),(10,vi v10)] [(1005,78,[rc25 (v5 ++ (ex44 v8 v10))])] ?_))
  cases h
  exact hQ
 ·refine Wp.skip (To.blockN (kt [1,5,8,9,10] [1005] [(1,.fn 73 [.el [.str v1_0]]),(5,.row 1005),(8,rs3 v8),(9,vi v9),(10,vi v10)] [(1005,78,[rc25 v5])] ?_))
  cases h
  exact hQ
def view_those_api_Kept__view_names_1_e_l1 (n:Nat) (v1_0:List UInt8) (v8:List (S_api_Kept)) (v9:Int):Nat → (List (S_api_Kept)) → Int → Option ((List (S_api_Kept)))
 | 0,_,_=>none
 | k + 1,v5,v10=>if (decide (v10 < v9)) = true then ((view_those_api_Kept__view_names_1_e_j2 n v1_0 v5 v8 v9 v10).bind fun o1 =>
 view_those_api_Kept__view_names_1_e_l1 n v1_0 v8 v9 k o1 (IntKind.wrap .i64 (v10 + 1)))
 else some v5
theorem ok_view_those_api_Kept__view_names_1_e_l1 (n:Nat) (v1_0:List UInt8) (v8:List (S_api_Kept)) (v9:Int) {F0:Fz} {w0:Pt Try.prog} {Q:Exit → Act → World → Prop} (k:Nat):∀ (v5:List (S_api_Kept)) (v10:Int) (o:(List (S_api_Kept))),view_those_api_Kept__view_names_1_e_l1 n v1_0 v8 v9 k v5 v10 = some o → To 23 F0 w0 [(5,.row 1005)] [(1005,78,[rc25 o])] (.exit 0) Q → WL Try.prog 23 F0 w0 [(1,.fn 73 [.el [.str v1_0]]),(5,.row 1005),(8,rs3 v8),(9,vi v9),(10,vi v10)] [(1005,78,[rc25 v5])] (cI (cI (cB (cA (cB (cB (cF Try.f72))))))) Q:=by
 induction k with
 | zero=>intro v5 v10 o h; cases h
 | succ k ih =>
  intro v5 v10 o h hQ
  rw [view_those_api_Kept__view_names_1_e_l1] at h
  refine WL.round (Wp.seq (rg [1,5,8,9,10,11] [1005] [(1,.fn 73 [.el [.str v1_0]]),(5,.row 1005),(8,rs3 v8),(9,vi v9),(10,vi v10),(11,vb (decide (v10 < v9)))] [(1005,78,[rc25 v5])] (To.thenN (Wp.seq (cn h (fun h=>?_) (fun h=>?_))))))
  ·refine Wp.skip (To.thenN (Wp.seq ?_))
   obtain ⟨o1,ho1,h⟩:=bind_of h
   refine kw [1,5,8,9,10] [1005] [(1,.fn 73 [.el [.str v1_0]]),(5,.row 1005),(8,rs3 v8),(9,vi v9),(10,vi v10)] [(1005,78,[rc25 v5])] (ok_view_those_api_Kept__view_names_1_e_j2 n v1_0 v5 v8 v9 v10 o1 ho1 (To.thenN (rg [1,5,8,9,10] [1005] [(1,.fn 73 [.el [.str v1_0]]),(5,.row 1005),(8,rs3 v8),(9,vi v9),(ex8 v10)] [(1005,78,[rc25 o1])] (kt [1,5,8,9,10] [1005] [(1,.fn 73 [.el [.str v1_0]]),(5,.row 1005),(8,rs3 v8),(9,vi v9),(ex8 v10)] [(1005,78,[rc25 o1])] (To.again ?_)))))
   exact ih o1 (IntKind.wrap .i64 (v10 + 1)) _ h hQ
  ·refine Wp.exit (To.thenX (To.thenX (kt [5] [1005] [(5,.row 1005)] [(1005,78,[rc25 v5])] ?_)))
   cases h
   exact hQ
def view_those_api_Kept__view_names_1_e (n:Nat) (a0:List (S_api_Kept)) (c0:List UInt8):Option ((List (S_api_Kept))) :=
 (view_those_api_Kept__view_names_1_e_l1 n c0 a0 (List.length a0:Int) n ([]:List (S_api_Kept)) 0).bind fun o1 =>
 some o1
abbrev rc26 (l:List (S_api_Kept)):D:=.rowc true (α:=S_api_Kept) zx1 E_api_Kept l
theorem ok_view_those_api_Kept__view_names_1_e (n:Nat) (a0:List (S_api_Kept)) (c0:List UInt8) (r:(List (S_api_Kept))) (h:view_those_api_Kept__view_names_1_e n a0 c0 = some r):CallsX Try.prog 72 [rs3 a0,.fn 73 [.el [.str c0]]] (rs3 r):=by
 unfold view_those_api_Kept__view_names_1_e at h
 refine xo Try.f72 rfl fun F0 w0 _=>?_
 refine Wp.seq (rg [0,1] [] [(0,rs3 a0),(1,.fn 73 [.el [.str c0]])] [] (To.thenN (Wp.seq (rg [0,1,5] [] [(0,rs3 a0),(1,.fn 73 [.el [.str c0]]),(5,.val (.slice none 0 0))] [] (To.thenN (Wp.seq (Wp.seq (rg [1,5,8,9,10] [] [(1,.fn 73 [.el [.str c0]]),(5,.val (.slice none 0 0)),(8,rs3 a0),(9,vi (List.length a0:Int)),(10,vi 0)] [] (To.thenN (Wp.block ?_))))))))))
 obtain ⟨o1,ho1,h⟩:=bind_of h
 refine kw [1,5,8,9,10] [] [(1,.fn 73 [.el [.str c0]]),(5,.val (.slice none 0 0)),(8,rs3 a0),(9,vi (List.length a0:Int)),(10,vi 0)] [] (Wp.pre (St.vacant (t:=5) (k:=1005) (e:=78) (K':=[(1,.fn 73 [.el [.str c0]]),(5,.row 1005),(8,rs3 a0),(9,vi (List.length a0:Int)),(10,vi 0)]) (good_E_api_Kept _) (by decide) (by kernel_rfl) (by kernel_rfl)) (kw [1,5,8,9,10] [1005] [(1,.fn 73 [.el [.str c0]]),(5,.row 1005),(8,rs3 a0),(9,vi (List.length a0:Int)),(10,vi 0)] [(1005,78,[rc25 []])] (Wp.loopL (ok_view_those_api_Kept__view_names_1_e_l1 n c0 a0 (List.length a0:Int) n ([]:List (S_api_Kept)) 0 o1 ho1 (To.blockX (To.thenN (Wp.seq (rg [4] [1005] [(4,.row 1005)] [(1005,78,[rc25 o1])] (To.thenN (Wp.ret ?_))))))))))
 refine To.pre (St.settle (ks:=[1005]) (kk:=[4]) (kl:=[1005]) (K':=[(4,.row 1005)]) (L':=[(1005,78,[rc26 o1])]) (by kernel_rfl)) (To.pre (St.sealK [4] (K':=[(4,rs3 o1)]) (by kernel_rfl)) ?_)
 cases h
 exact To.done hΓ (by kernel_rfl)
theorem good_E_string (l:List (List UInt8)):GoodR (.recs [] E_string l):=⟨Nat.le_of_ble_eq_true (by kernel_rfl),fun _=>⟨rfl,rfl⟩⟩
def view_names_l1 (n:Nat) (v10:List (S_api_Kept)) (v11:Int):Nat → (List (List UInt8)) → Int → Option ((List (List UInt8)))
 | 0,_,_=>none
 | k + 1,v5,v12=>if (decide (v12 < v11)) = true then (if (decide (0 ≤ v12 ∧ v12 < (List.length v10:Int))) = true then (if (decide ((List.length v5 + List.length ([((v10)[Int.toNat v12]?.getD (S_api_Kept.mk [] [])).f_Name]:List (List UInt8))) * (16 + 1) ≤ limit)) = true then (view_names_l1 n v10 v11 k (v5 ++ ([((v10)[Int.toNat v12]?.getD (S_api_Kept.mk [] [])).f_Name]:List (List UInt8))) (IntKind.wrap .i64 (v12 + 1))) else none) else none)
 else some v5
abbrev rc27 (l:List (List UInt8)):D:=.rowc false (α:=List UInt8) [] E_string l
abbrev ex27 (x0:List (S_api_Kept)) (x1:Int):=([((x0)[Int.toNat x1]?.getD zx1).f_Name]:List (List UInt8))
abbrev ex28 (x0:List (S_api_Kept)) (x1:Int):=(((x0)[Int.toNat x1]?.getD zx1).f_Name)
abbrev ex29 (x0:List (S_api_Kept)) (x1:Int):=(((x0)[Int.toNat x1]?.getD zx1).f_Project)
abbrev ex30 (x0:Int):Nat × D:=(12,vi (IntKind.wrap .i64 (x0 + 1)))
theorem ok_view_names_l1 (n:Nat) (v10:List (S_api_Kept)) (v11:Int) {F0:Fz} {w0:Pt Try.prog} {Q:Exit → Act → World → Prop} (k:Nat):∀ (v5:List (List UInt8)) (v12:Int) (o:(List (List UInt8))),view_names_l1 n v10 v11 k v5 v12 = some o → To 23 F0 w0 [(5,.row 1005)] [(1005,9,[rc27 o])] (.exit 0) Q → WL Try.prog 23 F0 w0 [(5,.row 1005),(10,rs3 v10),(11,vi v11),(12,vi v12)] [(1005,9,[rc27 v5])] (cI (cI (cB (cA (cB (cB (cF Try.f48))))))) Q:=by
 induction k with
 | zero=>intro v5 v12 o h; cases h
 | succ k ih =>
  intro v5 v12 o h hQ
  rw [view_names_l1] at h
  refine WL.round (Wp.seq (rg [5,10,11,12,13] [1005] [(5,.row 1005),(10,rs3 v10),(11,vi v11),(12,vi v12),(13,vb (decide (v12 < v11)))] [(1005,9,[rc27 v5])] (To.thenN (Wp.seq (cn h (fun h=>?_) (fun h=>?_))))))
  ·refine Wp.skip (To.thenN (Wp.seq (Wp.block (Wp.seq ?_))))
   obtain ⟨hc3,h⟩:=chk_of h
   refine r0 [5,7,10,11,12] [7,1005] [(5,.row 1005),(7,.own 7 0),(10,rs3 v10),(11,vi v11),(12,vi v12)] [(7,78,[.str (ex28 v10 v12),.str (ex29 v10 v12)]),(1005,9,[rc27 v5])] (AllP.cons hc3 AllP.nil) (To.thenN ?_)
   obtain ⟨hc2,h⟩:=chk_of h
   refine rr [] [(3,ls ([((v10)[Int.toNat v12]?.getD zx1).f_Name])),(4,ls (v5 ++ (ex27 v10 v12)))] [] [5,10,11,12] [20] [(5,.row 20),(10,rs3 v10),(11,vi v11),(12,vi v12)] [(20,9,[rc27 (v5 ++ (ex27 v10 v12))])] [(MkOb 1 [.str (ex28 v10 v12)] 1 (ls ([((v10)[Int.toNat v12]?.getD zx1).f_Name])) ∧ GoodR (ls ([((v10)[Int.toNat v12]?.getD zx1).f_Name]))),_,(AppOb [] E_string v5 (List.flatMap E_string (ex27 v10 v12)) (List.length (ex27 v10 v12)) (ls (v5 ++ (ex27 v10 v12))) ∧ GoodR (ls (v5 ++ (ex27 v10 v12))))] (AllP.cons (mkOb (by kernel_rfl) rfl (by kernel_rfl) (good_E_string _)) (AllP.cons hc2 (AllP.cons (appOb rfl rfl (good_E_string _)) AllP.nil))) (To.blockN (To.thenN (rg [5,10,11,12] [20] [(5,.row 20),(10,rs3 v10),(11,vi v11),(ex30 v12)] [(20,9,[rc27 (v5 ++ (ex27 v10 v12))])] (nt [5,10,11,12] [20] [(20,1005)] [5,10,11,12] [1005] [(5,.row 1005),(10,rs3 v10),(11,vi v11),(ex30 v12)] [(1005,9,[rc27 (v5 ++ (ex27 v10 v12))])] (To.again ?_)))))
   exact ih (v5 ++ (ex27 v10 v12)) (IntKind.wrap .i64 (v12 + 1)) _ h hQ
  ·refine Wp.exit (To.thenX (To.thenX (kt [5] [1005] [(5,.row 1005)] [(1005,9,[rc27 v5])] ?_)))
   cases h
   exact hQ
def view_names (n:Nat) (a0:List (S_api_Kept)) (a1:List UInt8):Option ((List (List UInt8))) :=
 (view_those_api_Kept__view_names_1_e n a0 a1).bind fun r1 =>
 (view_names_l1 n r1 (List.length r1:Int) n ([]:List (List UInt8)) 0).bind fun o2 =>
 some o2
abbrev rc28 (l:List (List UInt8)):D:=.rowc true (α:=List UInt8) [] E_string l
theorem ok_view_names (n:Nat) (a0:List (S_api_Kept)) (a1:List UInt8) (r:(List (List UInt8))) (h:view_names n a0 a1 = some r):CallsX Try.prog 48 [rs3 a0,.str a1] (ls r):=by
 unfold view_names at h
 refine xo Try.f48 rfl fun F0 w0 _=>?_
 refine Wp.seq (rg [0,3] [3] [(0,rs3 a0),(3,.own 3 0)] [(3,9,[.str a1])] (To.thenN (Wp.seq (rg [0,3,5] [3] [(0,rs3 a0),(3,.own 3 0),(5,.val (.slice none 0 0))] [(3,9,[.str a1])] (To.thenN (Wp.seq (Wp.seq ?_)))))))
 obtain ⟨r1,hr1,h⟩:=bind_of h
 refine rc [(1,[3])] 2 [5,10,11,12] [] [(5,.val (.slice none 0 0)),(10,rs3 r1),(11,vi (List.length r1:Int)),(12,vi 0)] [] (ok_view_those_api_Kept__view_names_1_e n a0 a1 _ hr1) (To.thenN (Wp.block ?_))
 obtain ⟨o2,ho2,h⟩:=bind_of h
 refine kw [5,10,11,12] [] [(5,.val (.slice none 0 0)),(10,rs3 r1),(11,vi (List.length r1:Int)),(12,vi 0)] [] (Wp.pre (St.vacant (t:=5) (k:=1005) (e:=9) (K':=[(5,.row 1005),(10,rs3 r1),(11,vi (List.length r1:Int)),(12,vi 0)]) (good_E_string _) (by decide) (by kernel_rfl) (by kernel_rfl)) (kw [5,10,11,12] [1005] [(5,.row 1005),(10,rs3 r1),(11,vi (List.length r1:Int)),(12,vi 0)] [(1005,9,[rc27 []])] (Wp.loopL (ok_view_names_l1 n r1 (List.length r1:Int) n ([]:List (List UInt8)) 0 o2 ho2 (To.blockX (To.thenN (Wp.seq (rg [4] [1005] [(4,.row 1005)] [(1005,9,[rc27 o2])] (To.thenN (Wp.ret ?_))))))))))
 refine To.pre (St.settle (ks:=[1005]) (kk:=[4]) (kl:=[1005]) (K':=[(4,.row 1005)]) (L':=[(1005,9,[rc28 o2])]) (by kernel_rfl)) (To.pre (St.sealK [4] (K':=[(4,ls o2)]) (by kernel_rfl)) ?_)
 cases h
 exact To.done hΓ (by kernel_rfl)
def view_Nets (n:Nat) (a0:S_ref36_Seen) (a1:List UInt8):Option ((List (List UInt8))) :=
 (view_names n a0.f_Nets a1).bind fun r1 =>
 some r1
theorem ok_view_Nets (n:Nat) (a0:S_ref36_Seen) (a1:List UInt8) (r:(List (List UInt8))) (h:view_Nets n a0 a1 = some r):CallsX Try.prog 19 [.agg (qc4 a0),.str a1] (ls r):=by
 unfold view_Nets at h
 refine xo Try.f19 rfl fun F0 w0 _=>?_
 refine Wp.seq (rg [1,2] [2] [(1,.str a1),(2,.own 2 0)] [(2,32,qc4 a0)] (To.thenN (Wp.seq ?_)))
 obtain ⟨r1,hr1,h⟩:=bind_of h
 refine rc [] 3 [4] [] [(4,ls r1)] [] (ok_view_names n a0.f_Nets a1 _ hr1) (To.thenN (Wp.ret ?_))
 cases h
 exact To.done hΓ (by kernel_rfl)
def ref36_Names_j2 (n:Nat) (v0:List (S_api_Kept)) (v1:List UInt8) (v5:List (List UInt8)) (v6:Int):Option ((List (List UInt8))) :=
 if (decide (0 ≤ v6 ∧ v6 < (List.length v0:Int))) = true then (if ((((v0)[Int.toNat v6]?.getD (S_api_Kept.mk [] [])).f_Project) == v1) = true then (if (decide (0 ≤ v6 ∧ v6 < (List.length v0:Int))) = true then (if (decide ((List.length v5 + List.length ([((v0)[Int.toNat v6]?.getD (S_api_Kept.mk [] [])).f_Name]:List (List UInt8))) * (16 + 1) ≤ limit)) = true then (some (v5 ++ ([((v0)[Int.toNat v6]?.getD (S_api_Kept.mk [] [])).f_Name]:List (List UInt8)))) else none) else none)
 else some v5) else none
theorem ok_ref36_Names_j2 (n:Nat) (v0:List (S_api_Kept)) (v1:List UInt8) (v5:List (List UInt8)) (v6:Int) (o:(List (List UInt8))) (h:ref36_Names_j2 n v0 v1 v5 v6 = some o) {F0:Fz} {w0:Pt Try.prog} {Q:Exit → Act → World → Prop} (hQ:To 30 F0 w0 [(0,rs3 v0),(1,.str v1),(5,.row 1005),(6,vi v6)] [(1005,9,[rc27 o])] .normal Q):Wp Try.prog 30 F0 w0 [(0,rs3 v0),(1,.str v1),(5,.row 1005),(6,vi v6)] [(1005,9,[rc27 v5])] (cA (cB (cI (cI (cB (cA (cB (cB (cF Try.f20))))))))) Q:=by
 unfold ref36_Names_j2 at h
 refine Wp.block (Wp.seq ?_)
 obtain ⟨hc3,h⟩:=chk_of h
 refine r0 [0,1,5,6,20] [1005] [(0,rs3 v0),(1,.str v1),(5,.row 1005),(6,vi v6),(20,vb ((ex29 v0 v6) == v1))] [(1005,9,[rc27 v5])] (AllP.cons hc3 AllP.nil) (To.thenN (cn h (fun h=>?_) (fun h=>?_)))
 ·obtain ⟨hc1,h⟩:=chk_of h
  obtain ⟨hc2,h⟩:=chk_of h
  refine rr [] [(6,ls ([((v0)[Int.toNat v6]?.getD zx1).f_Name])),(7,ls (v5 ++ (ex27 v0 v6)))] [] [0,1,5,6] [28] [(0,rs3 v0),(1,.str v1),(5,.row 28),(6,vi v6)] [(28,9,[rc27 (v5 ++ (ex27 v0 v6))])] [_,(MkOb 1 [.str (ex28 v0 v6)] 1 (ls ([((v0)[Int.toNat v6]?.getD zx1).f_Name])) ∧ GoodR (ls ([((v0)[Int.toNat v6]?.getD zx1).f_Name]))),_,(AppOb [] E_string v5 (List.flatMap E_string (ex27 v0 v6)) (List.length (ex27 v0 v6)) (ls (v5 ++ (ex27 v0 v6))) ∧ GoodR (ls (v5 ++ (ex27 v0 v6))))] (AllP.cons hc1 (AllP.cons (mkOb (by kernel_rfl) rfl (by kernel_rfl) (good_E_string _)) (AllP.cons hc2 (AllP.cons (appOb rfl rfl (good_E_string _)) AllP.nil)))) (To.blockN (nt [0,1,5,6] [28] [(28,1005)] [0,1,5,6] [1005] [(0,rs3 v0),(1,.str v1),(5,.row 1005),(6,vi v6)] [(1005,9,[rc27 (v5 ++ (ex27 v0 v6))])] ?_))
  cases h
  exact hQ
 ·refine Wp.skip (To.blockN (kt [0,1,5,6] [1005] [(0,rs3 v0),(1,.str v1),(5,.row 1005),(6,vi v6)] [(1005,9,[rc27 v5])] ?_))
  cases h
  exact hQ
def ref36_Names_l1 (n:Nat) (v0:List (S_api_Kept)) (v1:List UInt8):Nat → (List (List UInt8)) → Int → Option ((List (List UInt8)))
 | 0,_,_=>none
 | k + 1,v5,v6=>if (decide (v6 < (List.length v0:Int))) = true then ((ref36_Names_j2 n v0 v1 v5 v6).bind fun o1 =>
 ref36_Names_l1 n v0 v1 k o1 (IntKind.wrap .i64 (v6 + 1)))
 else some v5
theorem ok_ref36_Names_l1 (n:Nat) (v0:List (S_api_Kept)) (v1:List UInt8) {F0:Fz} {w0:Pt Try.prog} {Q:Exit → Act → World → Prop} (k:Nat):∀ (v5:List (List UInt8)) (v6:Int) (o:(List (List UInt8))),ref36_Names_l1 n v0 v1 k v5 v6 = some o → To 30 F0 w0 [(5,.row 1005)] [(1005,9,[rc27 o])] (.exit 0) Q → WL Try.prog 30 F0 w0 [(0,rs3 v0),(1,.str v1),(5,.row 1005),(6,vi v6)] [(1005,9,[rc27 v5])] (cI (cI (cB (cA (cB (cB (cF Try.f20))))))) Q:=by
 induction k with
 | zero=>intro v5 v6 o h; cases h
 | succ k ih =>
  intro v5 v6 o h hQ
  rw [ref36_Names_l1] at h
  refine WL.round (Wp.seq (Wp.seq (rg [0,1,5,6,11] [1005] [(0,rs3 v0),(1,.str v1),(5,.row 1005),(6,vi v6),(11,vb (decide (v6 < (List.length v0:Int))))] [(1005,9,[rc27 v5])] (To.thenN (cn h (fun h=>?_) (fun h=>?_))))))
  ·refine Wp.skip (To.thenN (Wp.seq ?_))
   obtain ⟨o1,ho1,h⟩:=bind_of h
   refine kw [0,1,5,6] [1005] [(0,rs3 v0),(1,.str v1),(5,.row 1005),(6,vi v6)] [(1005,9,[rc27 v5])] (ok_ref36_Names_j2 n v0 v1 v5 v6 o1 ho1 (To.thenN (rg [0,1,5,6] [1005] [(0,rs3 v0),(1,.str v1),(5,.row 1005),(ex23 v6)] [(1005,9,[rc27 o1])] (kt [0,1,5,6] [1005] [(0,rs3 v0),(1,.str v1),(5,.row 1005),(ex23 v6)] [(1005,9,[rc27 o1])] (To.again ?_)))))
   exact ih o1 (IntKind.wrap .i64 (v6 + 1)) _ h hQ
  ·refine Wp.exit (To.thenX (To.thenX (kt [5] [1005] [(5,.row 1005)] [(1005,9,[rc27 v5])] ?_)))
   cases h
   exact hQ
def ref36_Names (n:Nat) (a0:List (S_api_Kept)) (a1:List UInt8):Option ((List (List UInt8))) :=
 (ref36_Names_l1 n a0 a1 n ([]:List (List UInt8)) 0).bind fun o1 =>
 some o1
theorem ok_ref36_Names (n:Nat) (a0:List (S_api_Kept)) (a1:List UInt8) (r:(List (List UInt8))) (h:ref36_Names n a0 a1 = some r):CallsX Try.prog 20 [rs3 a0,.str a1] (ls r):=by
 unfold ref36_Names at h
 refine xo Try.f20 rfl fun F0 w0 _=>?_
 refine Wp.seq (rg [0,1] [] [(0,rs3 a0),(1,.str a1)] [] (To.thenN (Wp.seq (rr [] [(0,ls [])] [] [0,1,5] [7] [(0,rs3 a0),(1,.str a1),(5,.row 7)] [(7,9,[rc27 []])] [(MkOb 1 [] 0 (ls []) ∧ GoodR (ls []))] (AllP.cons (mkOb (by kernel_rfl) rfl (by kernel_rfl) (good_E_string _)) AllP.nil) (To.thenN (Wp.seq (Wp.seq (rg [0,1,5,6] [7] [(0,rs3 a0),(1,.str a1),(5,.row 7),(6,vi 0)] [(7,9,[rc27 []])] (To.thenN (Wp.block ?_))))))))))
 obtain ⟨o1,ho1,h⟩:=bind_of h
 refine nw [0,1,5,6] [7] [(7,1005)] [0,1,5,6] [1005] [(0,rs3 a0),(1,.str a1),(5,.row 1005),(6,vi 0)] [(1005,9,[rc27 []])] (Wp.loopL (ok_ref36_Names_l1 n a0 a1 n ([]:List (List UInt8)) 0 o1 ho1 (To.blockX (To.thenN (Wp.seq (rg [4] [1005] [(4,.row 1005)] [(1005,9,[rc27 o1])] (To.thenN (Wp.ret (To.pre (St.settle (ks:=[1005]) (kk:=[4]) (kl:=[1005]) (K':=[(4,.row 1005)]) (L':=[(1005,9,[rc28 o1])]) (by kernel_rfl)) (To.pre (St.sealK [4] (K':=[(4,ls o1)]) (by kernel_rfl)) ?_))))))))))
 cases h
 exact To.done hΓ (by kernel_rfl)
def view_Vols (n:Nat) (a0:S_ref36_Seen) (a1:List UInt8):Option ((List (List UInt8))) :=
 (view_names n a0.f_Vols a1).bind fun r1 =>
 some r1
theorem ok_view_Vols (n:Nat) (a0:S_ref36_Seen) (a1:List UInt8) (r:(List (List UInt8))) (h:view_Vols n a0 a1 = some r):CallsX Try.prog 21 [.agg (qc4 a0),.str a1] (ls r):=by
 unfold view_Vols at h
 refine xo Try.f21 rfl fun F0 w0 _=>?_
 refine Wp.seq (rg [1,2] [2] [(1,.str a1),(2,.own 2 0)] [(2,32,qc4 a0)] (To.thenN (Wp.seq ?_)))
 obtain ⟨r1,hr1,h⟩:=bind_of h
 refine rc [] 3 [4] [] [(4,ls r1)] [] (ok_view_names n a0.f_Vols a1 _ hr1) (To.thenN (Wp.ret ?_))
 cases h
 exact To.done hΓ (by kernel_rfl)
def view_named_1__e (a0:S_api_Kept) (c0:List UInt8):Bool :=
 (a0.f_Name == c0)
theorem ok_view_named_1__e (a0:S_api_Kept) (c0:List UInt8) (r:Bool) (h:view_named_1__e a0 c0 = r):CallsX Try.prog 75 [.agg (qc24 a0),.el [.str c0]] (vb r):=by
 unfold view_named_1__e at h
 refine xo Try.f75 rfl fun F0 w0 _=>?_
 refine Wp.seq (rg [1,2] [2] [(1,.el [.str c0]),(2,.own 2 0)] [(2,78,qc24 a0)] (To.thenN (Wp.seq (rg [3] [] [(3,vb (a0.f_Name == c0))] [] (To.thenN (Wp.ret ?_))))))
 cases h
 exact To.done hΓ (by kernel_rfl)
def slices_IndexFunc_api_Kept_api_Kept__view_named_1_e_l1 (n:Nat) (v0:List (S_api_Kept)) (v1_0:List UInt8) (v7:Int):Nat → Int → Option (Sum (Unit) (Int))
 | 0,_=>none
 | k + 1,v8=>if (decide (v8 < v7)) = true then (if (decide (0 ≤ v8 ∧ v8 < (List.length v0:Int))) = true then (lett (view_named_1__e ((v0)[Int.toNat v8]?.getD (S_api_Kept.mk [] [])) v1_0) fun r1 =>
 if r1 = true then (some (.inr v8))
 else (slices_IndexFunc_api_Kept_api_Kept__view_named_1_e_l1 n v0 v1_0 v7 k (IntKind.wrap .i64 (v8 + 1)))) else none)
 else (some (.inl ()))
theorem ok_slices_IndexFunc_api_Kept_api_Kept__view_named_1_e_l1 (n:Nat) (v0:List (S_api_Kept)) (v1_0:List UInt8) (v7:Int) {F0:Fz} {w0:Pt Try.prog} {Q:Exit → Act → World → Prop} (k:Nat):∀ (v8:Int) (o:Sum (Unit) (Int)),slices_IndexFunc_api_Kept_api_Kept__view_named_1_e_l1 n v0 v1_0 v7 k v8 = some o → (Sum.elim (fun s=>To 19 F0 w0 [] [] (.exit 0) Q) (fun s=>To 19 F0 w0 [(4,vi s)] [] .ret Q)) o → WL Try.prog 19 F0 w0 [(0,rs3 v0),(1,.fn 75 [.el [.str v1_0]]),(7,vi v7),(8,vi v8)] [] (cI (cI (cB (cA (cB (cF Try.f90)))))) Q:=by
 induction k with
 | zero=>intro v8 o h; cases h
 | succ k ih =>
  intro v8 o h hQ
  rw [slices_IndexFunc_api_Kept_api_Kept__view_named_1_e_l1] at h
  refine WL.round (Wp.seq (rg [0,1,7,8,9] [] [(0,rs3 v0),(1,.fn 75 [.el [.str v1_0]]),(7,vi v7),(8,vi v8),(9,vb (decide (v8 < v7)))] [] (To.thenN (Wp.seq (cn h (fun h=>?_) (fun h=>?_))))))
  ·refine Wp.skip (To.thenN (Wp.seq (Wp.block (Wp.seq (rg [0,1,5,7,8] [] [(0,rs3 v0),(1,.fn 75 [.el [.str v1_0]]),(5,vi v8),(7,vi v7),(8,vi v8)] [] (To.thenN (Wp.seq ?_)))))))
   obtain ⟨hc2,h⟩:=chk_of h
   obtain ⟨r1,hr1,h⟩:=lett_of h
   refine rr [] [(5,vb r1)] [] [0,1,5,7,8,16] [] [(0,rs3 v0),(1,.fn 75 [.el [.str v1_0]]),(5,vi v8),(7,vi v7),(8,vi v8),(16,vb r1)] [] [_,_] (AllP.cons hc2 (AllP.cons (c1 (ok_view_named_1__e (ex25 v0 v8) v1_0 _ hr1)) AllP.nil)) (To.thenN (cn h (fun h=>?_) (fun h=>?_)))
   ·refine Wp.seq (rg [4] [] [(4,vi v8)] [] (To.thenN (Wp.ret (To.blockR (To.thenR (To.thenR ?_))))))
    cases h
    exact hQ
   ·refine Wp.skip (To.blockN (To.thenN (rg [0,1,7,8] [] [(0,rs3 v0),(1,.fn 75 [.el [.str v1_0]]),(7,vi v7),(ex3 v8)] [] (kt [0,1,7,8] [] [(0,rs3 v0),(1,.fn 75 [.el [.str v1_0]]),(7,vi v7),(ex3 v8)] [] (To.again ?_)))))
    exact ih (IntKind.wrap .i64 (v8 + 1)) _ h hQ
  ·refine Wp.exit (To.thenX (To.thenX (kt [] [] [] [] ?_)))
   cases h
   exact hQ
def slices_IndexFunc_api_Kept_api_Kept__view_named_1_e (n:Nat) (a0:List (S_api_Kept)) (c0:List UInt8):Option (Int) :=
 (slices_IndexFunc_api_Kept_api_Kept__view_named_1_e_l1 n a0 c0 (List.length a0:Int) n 0).bind fun o1 =>
 (Sum.elim (fun o1=>some (-1)) (fun o1=>some o1)) o1
theorem ok_slices_IndexFunc_api_Kept_api_Kept__view_named_1_e (n:Nat) (a0:List (S_api_Kept)) (c0:List UInt8) (r:Int) (h:slices_IndexFunc_api_Kept_api_Kept__view_named_1_e n a0 c0 = some r):CallsX Try.prog 90 [rs3 a0,.fn 75 [.el [.str c0]]] (vi r):=by
 unfold slices_IndexFunc_api_Kept_api_Kept__view_named_1_e at h
 refine xo Try.f90 rfl fun F0 w0 _=>?_
 refine Wp.seq (rg [0,1] [] [(0,rs3 a0),(1,.fn 75 [.el [.str c0]])] [] (To.thenN (Wp.seq (Wp.seq (rg [0,1,7,8] [] [(0,rs3 a0),(1,.fn 75 [.el [.str c0]]),(7,vi (List.length a0:Int)),(8,vi 0)] [] (To.thenN (Wp.block ?_)))))))
 obtain ⟨o1,ho1,h⟩:=bind_of h
 refine kw [0,1,7,8] [] [(0,rs3 a0),(1,.fn 75 [.el [.str c0]]),(7,vi (List.length a0:Int)),(8,vi 0)] [] (Wp.loopL (ok_slices_IndexFunc_api_Kept_api_Kept__view_named_1_e_l1 n a0 c0 (List.length a0:Int) n 0 o1 ho1 ?_))
 rcases o1 with o1 | o1
 ·replace h:=sum_l h
  refine To.blockX (To.thenN (Wp.seq (rg [4] [] [(4,vi (-1))] [] (To.thenN (Wp.ret ?_)))))
  cases h
  exact To.done hΓ (by kernel_rfl)
 ·replace h:=sum_r h
  refine To.blockR (To.thenR ?_)
  cases h
  exact To.done hΓ (by kernel_rfl)
def slices_ContainsFunc_api_Kept_api_Kept__view_named_1_e (n:Nat) (a0:List (S_api_Kept)) (c0:List UInt8):Option (Bool) :=
 (slices_IndexFunc_api_Kept_api_Kept__view_named_1_e n a0 c0).bind fun r1 =>
 some (decide (r1 ≥ 0))
theorem ok_slices_ContainsFunc_api_Kept_api_Kept__view_named_1_e (n:Nat) (a0:List (S_api_Kept)) (c0:List UInt8) (r:Bool) (h:slices_ContainsFunc_api_Kept_api_Kept__view_named_1_e n a0 c0 = some r):CallsX Try.prog 74 [rs3 a0,.fn 75 [.el [.str c0]]] (vb r):=by
 unfold slices_ContainsFunc_api_Kept_api_Kept__view_named_1_e at h
 refine xo Try.f74 rfl fun F0 w0 _=>?_
 refine Wp.seq (rg [0,1] [] [(0,rs3 a0),(1,.fn 75 [.el [.str c0]])] [] (To.thenN (Wp.seq ?_)))
 obtain ⟨r1,hr1,h⟩:=bind_of h
 refine rc [] 2 [4] [] [(4,vb (decide (r1 ≥ 0)))] [] (ok_slices_IndexFunc_api_Kept_api_Kept__view_named_1_e n a0 c0 _ hr1) (To.thenN (Wp.ret ?_))
 cases h
 exact To.done hΓ (by kernel_rfl)
def view_named (n:Nat) (a0:List (S_api_Kept)) (a1:List UInt8):Option (Bool) :=
 (slices_ContainsFunc_api_Kept_api_Kept__view_named_1_e n a0 a1).bind fun r1 =>
 some r1
theorem ok_view_named (n:Nat) (a0:List (S_api_Kept)) (a1:List UInt8) (r:Bool) (h:view_named n a0 a1 = some r):CallsX Try.prog 49 [rs3 a0,.str a1] (vb r):=by
 unfold view_named at h
 refine xo Try.f49 rfl fun F0 w0 _=>?_
 refine Wp.seq (rg [0,3] [3] [(0,rs3 a0),(3,.own 3 0)] [(3,9,[.str a1])] (To.thenN (Wp.seq ?_)))
 obtain ⟨r1,hr1,h⟩:=bind_of h
 refine rc [(1,[3])] 2 [4] [] [(4,vb r1)] [] (ok_slices_ContainsFunc_api_Kept_api_Kept__view_named_1_e n a0 a1 _ hr1) (To.thenN (Wp.ret ?_))
 cases h
 exact To.done hΓ (by kernel_rfl)
def view_Net (n:Nat) (a0:S_ref36_Seen) (a1:List UInt8):Option (Bool) :=
 (view_named n a0.f_Nets a1).bind fun r1 =>
 some r1
theorem ok_view_Net (n:Nat) (a0:S_ref36_Seen) (a1:List UInt8) (r:Bool) (h:view_Net n a0 a1 = some r):CallsX Try.prog 22 [.agg (qc4 a0),.str a1] (vb r):=by
 unfold view_Net at h
 refine xo Try.f22 rfl fun F0 w0 _=>?_
 refine Wp.seq (rg [1,2] [2] [(1,.str a1),(2,.own 2 0)] [(2,32,qc4 a0)] (To.thenN (Wp.seq ?_)))
 obtain ⟨r1,hr1,h⟩:=bind_of h
 refine rc [] 3 [4] [] [(4,vb r1)] [] (ok_view_named n a0.f_Nets a1 _ hr1) (To.thenN (Wp.ret ?_))
 cases h
 exact To.done hΓ (by kernel_rfl)
def ref36_Named_l1 (n:Nat) (v0:List (S_api_Kept)) (v1:List UInt8):Nat → Int → Option (Sum (Unit) (Bool))
 | 0,_=>none
 | k + 1,v5=>if (decide (v5 < (List.length v0:Int))) = true then (if (decide (0 ≤ v5 ∧ v5 < (List.length v0:Int))) = true then (if ((((v0)[Int.toNat v5]?.getD (S_api_Kept.mk [] [])).f_Name) == v1) = true then (some (.inr true))
 else (ref36_Named_l1 n v0 v1 k (IntKind.wrap .i64 (v5 + 1)))) else none)
 else (some (.inl ()))
theorem ok_ref36_Named_l1 (n:Nat) (v0:List (S_api_Kept)) (v1:List UInt8) {F0:Fz} {w0:Pt Try.prog} {Q:Exit → Act → World → Prop} (k:Nat):∀ (v5:Int) (o:Sum (Unit) (Bool)),ref36_Named_l1 n v0 v1 k v5 = some o → (Sum.elim (fun s=>To 19 F0 w0 [] [] (.exit 0) Q) (fun s=>To 19 F0 w0 [(4,vb s)] [] .ret Q)) o → WL Try.prog 19 F0 w0 [(0,rs3 v0),(1,.str v1),(5,vi v5)] [] (cI (cI (cB (cA (cB (cF Try.f23)))))) Q:=by
 induction k with
 | zero=>intro v5 o h; cases h
 | succ k ih =>
  intro v5 o h hQ
  rw [ref36_Named_l1] at h
  refine WL.round (Wp.seq (Wp.seq (rg [0,1,5,9] [] [(0,rs3 v0),(1,.str v1),(5,vi v5),(9,vb (decide (v5 < (List.length v0:Int))))] [] (To.thenN (cn h (fun h=>?_) (fun h=>?_))))))
  ·refine Wp.skip (To.thenN (Wp.seq (Wp.block (Wp.seq ?_))))
   obtain ⟨hc1,h⟩:=chk_of h
   refine r0 [0,1,5,18] [] [(0,rs3 v0),(1,.str v1),(5,vi v5),(18,vb (((ex25 v0 v5).f_Name) == v1))] [] (AllP.cons hc1 AllP.nil) (To.thenN (cn h (fun h=>?_) (fun h=>?_)))
   ·refine Wp.seq (rg [4] [] [(4,vb true)] [] (To.thenN (Wp.ret (To.blockR (To.thenR (To.thenR ?_))))))
    cases h
    exact hQ
   ·refine Wp.skip (To.blockN (To.thenN (rg [0,1,5] [] [(0,rs3 v0),(1,.str v1),(ex24 v5)] [] (kt [0,1,5] [] [(0,rs3 v0),(1,.str v1),(ex24 v5)] [] (To.again ?_)))))
    exact ih (IntKind.wrap .i64 (v5 + 1)) _ h hQ
  ·refine Wp.exit (To.thenX (To.thenX (kt [] [] [] [] ?_)))
   cases h
   exact hQ
def ref36_Named (n:Nat) (a0:List (S_api_Kept)) (a1:List UInt8):Option (Bool) :=
 (ref36_Named_l1 n a0 a1 n 0).bind fun o1 =>
 (Sum.elim (fun o1=>some false) (fun o1=>some o1)) o1
theorem ok_ref36_Named (n:Nat) (a0:List (S_api_Kept)) (a1:List UInt8) (r:Bool) (h:ref36_Named n a0 a1 = some r):CallsX Try.prog 23 [rs3 a0,.str a1] (vb r):=by
 unfold ref36_Named at h
 refine xo Try.f23 rfl fun F0 w0 _=>?_
 refine Wp.seq (rg [0,1] [] [(0,rs3 a0),(1,.str a1)] [] (To.thenN (Wp.seq (Wp.seq (rg [0,1,5] [] [(0,rs3 a0),(1,.str a1),(5,vi 0)] [] (To.thenN (Wp.block ?_)))))))
 obtain ⟨o1,ho1,h⟩:=bind_of h
 refine kw [0,1,5] [] [(0,rs3 a0),(1,.str a1),(5,vi 0)] [] (Wp.loopL (ok_ref36_Named_l1 n a0 a1 n 0 o1 ho1 ?_))
 rcases o1 with o1 | o1
 ·replace h:=sum_l h
  refine To.blockX (To.thenN (Wp.seq (rg [4] [] [(4,vb false)] [] (To.thenN (Wp.ret ?_)))))
  cases h
  exact To.done hΓ (by kernel_rfl)
 ·replace h:=sum_r h
  refine To.blockR (To.thenR ?_)
  cases h
  exact To.done hΓ (by kernel_rfl)
def view_Vol (n:Nat) (a0:S_ref36_Seen) (a1:List UInt8):Option (Bool) :=
 (view_named n a0.f_Vols a1).bind fun r1 =>
 some r1
theorem ok_view_Vol (n:Nat) (a0:S_ref36_Seen) (a1:List UInt8) (r:Bool) (h:view_Vol n a0 a1 = some r):CallsX Try.prog 24 [.agg (qc4 a0),.str a1] (vb r):=by
 unfold view_Vol at h
 refine xo Try.f24 rfl fun F0 w0 _=>?_
 refine Wp.seq (rg [1,2] [2] [(1,.str a1),(2,.own 2 0)] [(2,32,qc4 a0)] (To.thenN (Wp.seq ?_)))
 obtain ⟨r1,hr1,h⟩:=bind_of h
 refine rc [] 3 [4] [] [(4,vb r1)] [] (ok_view_named n a0.f_Vols a1 _ hr1) (To.thenN (Wp.ret ?_))
 cases h
 exact To.done hΓ (by kernel_rfl)
def slices_Index_string_string_l1 (n:Nat) (v0:List (List UInt8)) (v1:List UInt8) (v7:Int):Nat → Int → Option (Sum (Unit) (Int))
 | 0,_=>none
 | k + 1,v8=>if (decide (v8 < v7)) = true then (if (decide (0 ≤ v8 ∧ v8 < (List.length v0:Int))) = true then (if (v1 == ((v0)[Int.toNat v8]?.getD [])) = true then (some (.inr v8))
 else (slices_Index_string_string_l1 n v0 v1 v7 k (IntKind.wrap .i64 (v8 + 1)))) else none)
 else (some (.inl ()))
theorem ok_slices_Index_string_string_l1 (n:Nat) (v0:List (List UInt8)) (v1:List UInt8) (v7:Int) {F0:Fz} {w0:Pt Try.prog} {Q:Exit → Act → World → Prop} (k:Nat):∀ (v8:Int) (o:Sum (Unit) (Int)),slices_Index_string_string_l1 n v0 v1 v7 k v8 = some o → (Sum.elim (fun s=>To 19 F0 w0 [] [] (.exit 0) Q) (fun s=>To 19 F0 w0 [(4,vi s)] [] .ret Q)) o → WL Try.prog 19 F0 w0 [(0,ls v0),(1,.str v1),(7,vi v7),(8,vi v8)] [] (cI (cI (cB (cA (cB (cF Try.f91)))))) Q:=by
 induction k with
 | zero=>intro v8 o h; cases h
 | succ k ih =>
  intro v8 o h hQ
  rw [slices_Index_string_string_l1] at h
  refine WL.round (Wp.seq (rg [0,1,7,8,9] [] [(0,ls v0),(1,.str v1),(7,vi v7),(8,vi v8),(9,vb (decide (v8 < v7)))] [] (To.thenN (Wp.seq (cn h (fun h=>?_) (fun h=>?_))))))
  ·refine Wp.skip (To.thenN (Wp.seq (Wp.block (Wp.seq (rg [0,1,5,7,8] [] [(0,ls v0),(1,.str v1),(5,vi v8),(7,vi v7),(8,vi v8)] [] (To.thenN (Wp.seq ?_)))))))
   obtain ⟨hc1,h⟩:=chk_of h
   refine r0 [0,1,5,7,8,16] [] [(0,ls v0),(1,.str v1),(5,vi v8),(7,vi v7),(8,vi v8),(16,vb (v1 == ((v0)[Int.toNat v8]?.getD [])))] [] (AllP.cons hc1 AllP.nil) (To.thenN (cn h (fun h=>?_) (fun h=>?_)))
   ·refine Wp.seq (rg [4] [] [(4,vi v8)] [] (To.thenN (Wp.ret (To.blockR (To.thenR (To.thenR ?_))))))
    cases h
    exact hQ
   ·refine Wp.skip (To.blockN (To.thenN (rg [0,1,7,8] [] [(0,ls v0),(1,.str v1),(7,vi v7),(ex3 v8)] [] (kt [0,1,7,8] [] [(0,ls v0),(1,.str v1),(7,vi v7),(ex3 v8)] [] (To.again ?_)))))
    exact ih (IntKind.wrap .i64 (v8 + 1)) _ h hQ
  ·refine Wp.exit (To.thenX (To.thenX (kt [] [] [] [] ?_)))
   cases h
   exact hQ
def slices_Index_string_string (n:Nat) (a0:List (List UInt8)) (a1:List UInt8):Option (Int) :=
 (slices_Index_string_string_l1 n a0 a1 (List.length a0:Int) n 0).bind fun o1 =>
 (Sum.elim (fun o1=>some (-1)) (fun o1=>some o1)) o1
theorem ok_slices_Index_string_string (n:Nat) (a0:List (List UInt8)) (a1:List UInt8) (r:Int) (h:slices_Index_string_string n a0 a1 = some r):CallsX Try.prog 91 [ls a0,.str a1] (vi r):=by
 unfold slices_Index_string_string at h
 refine xo Try.f91 rfl fun F0 w0 _=>?_
 refine Wp.seq (rg [0,1] [] [(0,ls a0),(1,.str a1)] [] (To.thenN (Wp.seq (Wp.seq (rg [0,1,7,8] [] [(0,ls a0),(1,.str a1),(7,vi (List.length a0:Int)),(8,vi 0)] [] (To.thenN (Wp.block ?_)))))))
 obtain ⟨o1,ho1,h⟩:=bind_of h
 refine kw [0,1,7,8] [] [(0,ls a0),(1,.str a1),(7,vi (List.length a0:Int)),(8,vi 0)] [] (Wp.loopL (ok_slices_Index_string_string_l1 n a0 a1 (List.length a0:Int) n 0 o1 ho1 ?_))
 rcases o1 with o1 | o1
 ·replace h:=sum_l h
  refine To.blockX (To.thenN (Wp.seq (rg [4] [] [(4,vi (-1))] [] (To.thenN (Wp.ret ?_)))))
  cases h
  exact To.done hΓ (by kernel_rfl)
 ·replace h:=sum_r h
  refine To.blockR (To.thenR ?_)
  cases h
  exact To.done hΓ (by kernel_rfl)
def slices_Contains_string_string (n:Nat) (a0:List (List UInt8)) (a1:List UInt8):Option (Bool) :=
 (slices_Index_string_string n a0 a1).bind fun r1 =>
 some (decide (r1 ≥ 0))
theorem ok_slices_Contains_string_string (n:Nat) (a0:List (List UInt8)) (a1:List UInt8) (r:Bool) (h:slices_Contains_string_string n a0 a1 = some r):CallsX Try.prog 77 [ls a0,.str a1] (vb r):=by
 unfold slices_Contains_string_string at h
 refine xo Try.f77 rfl fun F0 w0 _=>?_
 refine Wp.seq (rg [0,1] [] [(0,ls a0),(1,.str a1)] [] (To.thenN (Wp.seq ?_)))
 obtain ⟨r1,hr1,h⟩:=bind_of h
 refine rc [] 2 [4] [] [(4,vb (decide (r1 ≥ 0)))] [] (ok_slices_Index_string_string n a0 a1 _ hr1) (To.thenN (Wp.ret ?_))
 cases h
 exact To.done hΓ (by kernel_rfl)
def name_In (n:Nat) (a0:List (List UInt8)) (a1:List UInt8):Option (Bool) :=
 (slices_Contains_string_string n a0 a1).bind fun r1 =>
 some r1
theorem ok_name_In (n:Nat) (a0:List (List UInt8)) (a1:List UInt8) (r:Bool) (h:name_In n a0 a1 = some r):CallsX Try.prog 52 [ls a0,.str a1] (vb r):=by
 unfold name_In at h
 refine xo Try.f52 rfl fun F0 w0 _=>?_
 refine Wp.seq (rg [0,1] [] [(0,ls a0),(1,.str a1)] [] (To.thenN (Wp.seq ?_)))
 obtain ⟨r1,hr1,h⟩:=bind_of h
 refine rc [] 2 [4] [] [(4,vb r1)] [] (ok_slices_Contains_string_string n a0 a1 _ hr1) (To.thenN (Wp.ret ?_))
 cases h
 exact To.done hΓ (by kernel_rfl)
def view_Busy_1__e (n:Nat) (a0:S_api_Container) (c0:List UInt8):Option (Bool) :=
 (name_In n a0.f_Spec.f_Nets c0).bind fun r1 =>
 some r1
theorem ok_view_Busy_1__e (n:Nat) (a0:S_api_Container) (c0:List UInt8) (r:Bool) (h:view_Busy_1__e n a0 c0 = some r):CallsX Try.prog 51 [.agg (qc5 a0),.el [.str c0]] (vb r):=by
 unfold view_Busy_1__e at h
 refine xo Try.f51 rfl fun F0 w0 _=>?_
 refine Wp.seq (rg [1,2] [2] [(1,.el [.str c0]),(2,.own 2 0)] [(2,49,(E_api_Container a0))] (To.thenN (Wp.seq ?_)))
 obtain ⟨r1,hr1,h⟩:=bind_of h
 refine rc [] 4 [3] [] [(3,vb r1)] [] (ok_name_In n a0.f_Spec.f_Nets c0 _ hr1) (To.thenN (Wp.ret ?_))
 cases h
 exact To.done hΓ (by kernel_rfl)
def slices_IndexFunc_api_Container_api_Container__view_Busy_1_e_l1 (n:Nat) (v0:List (S_api_Container)) (v1_0:List UInt8) (v7:Int):Nat → Int → Option (Sum (Unit) (Int))
 | 0,_=>none
 | k + 1,v8=>if (decide (v8 < v7)) = true then (if (decide (0 ≤ v8 ∧ v8 < (List.length v0:Int))) = true then ((view_Busy_1__e n ((v0)[Int.toNat v8]?.getD Z_api_Container) v1_0).bind fun r1 =>
 if r1 = true then (some (.inr v8))
 else (slices_IndexFunc_api_Container_api_Container__view_Busy_1_e_l1 n v0 v1_0 v7 k (IntKind.wrap .i64 (v8 + 1)))) else none)
 else (some (.inl ()))
theorem ok_slices_IndexFunc_api_Container_api_Container__view_Busy_1_e_l1 (n:Nat) (v0:List (S_api_Container)) (v1_0:List UInt8) (v7:Int) {F0:Fz} {w0:Pt Try.prog} {Q:Exit → Act → World → Prop} (k:Nat):∀ (v8:Int) (o:Sum (Unit) (Int)),slices_IndexFunc_api_Container_api_Container__view_Busy_1_e_l1 n v0 v1_0 v7 k v8 = some o → (Sum.elim (fun s=>To 19 F0 w0 [] [] (.exit 0) Q) (fun s=>To 19 F0 w0 [(4,vi s)] [] .ret Q)) o → WL Try.prog 19 F0 w0 [(0,rs2 v0),(1,.fn 51 [.el [.str v1_0]]),(7,vi v7),(8,vi v8)] [] (cI (cI (cB (cA (cB (cF Try.f76)))))) Q:=by
 induction k with
 | zero=>intro v8 o h; cases h
 | succ k ih =>
  intro v8 o h hQ
  rw [slices_IndexFunc_api_Container_api_Container__view_Busy_1_e_l1] at h
  refine WL.round (Wp.seq (rg [0,1,7,8,9] [] [(0,rs2 v0),(1,.fn 51 [.el [.str v1_0]]),(7,vi v7),(8,vi v8),(9,vb (decide (v8 < v7)))] [] (To.thenN (Wp.seq (cn h (fun h=>?_) (fun h=>?_))))))
  ·refine Wp.skip (To.thenN (Wp.seq (Wp.block (Wp.seq (rg [0,1,5,7,8] [] [(0,rs2 v0),(1,.fn 51 [.el [.str v1_0]]),(5,vi v8),(7,vi v7),(8,vi v8)] [] (To.thenN (Wp.seq ?_)))))))
   obtain ⟨hc2,h⟩:=chk_of h
   obtain ⟨r1,hr1,h⟩:=bind_of h
   refine rr [] [(5,vb r1)] [] [0,1,5,7,8,16] [] [(0,rs2 v0),(1,.fn 51 [.el [.str v1_0]]),(5,vi v8),(7,vi v7),(8,vi v8),(16,vb r1)] [] [_,_] (AllP.cons hc2 (AllP.cons (c1 (ok_view_Busy_1__e n (ex6 v0 v8) v1_0 _ hr1)) AllP.nil)) (To.thenN (cn h (fun h=>?_) (fun h=>?_)))
   ·refine Wp.seq (rg [4] [] [(4,vi v8)] [] (To.thenN (Wp.ret (To.blockR (To.thenR (To.thenR ?_))))))
    cases h
    exact hQ
   ·refine Wp.skip (To.blockN (To.thenN (rg [0,1,7,8] [] [(0,rs2 v0),(1,.fn 51 [.el [.str v1_0]]),(7,vi v7),(ex3 v8)] [] (kt [0,1,7,8] [] [(0,rs2 v0),(1,.fn 51 [.el [.str v1_0]]),(7,vi v7),(ex3 v8)] [] (To.again ?_)))))
    exact ih (IntKind.wrap .i64 (v8 + 1)) _ h hQ
  ·refine Wp.exit (To.thenX (To.thenX (kt [] [] [] [] ?_)))
   cases h
   exact hQ
def slices_IndexFunc_api_Container_api_Container__view_Busy_1_e (n:Nat) (a0:List (S_api_Container)) (c0:List UInt8):Option (Int) :=
 (slices_IndexFunc_api_Container_api_Container__view_Busy_1_e_l1 n a0 c0 (List.length a0:Int) n 0).bind fun o1 =>
 (Sum.elim (fun o1=>some (-1)) (fun o1=>some o1)) o1
theorem ok_slices_IndexFunc_api_Container_api_Container__view_Busy_1_e (n:Nat) (a0:List (S_api_Container)) (c0:List UInt8) (r:Int) (h:slices_IndexFunc_api_Container_api_Container__view_Busy_1_e n a0 c0 = some r):CallsX Try.prog 76 [rs2 a0,.fn 51 [.el [.str c0]]] (vi r):=by
 unfold slices_IndexFunc_api_Container_api_Container__view_Busy_1_e at h
 refine xo Try.f76 rfl fun F0 w0 _=>?_
 refine Wp.seq (rg [0,1] [] [(0,rs2 a0),(1,.fn 51 [.el [.str c0]])] [] (To.thenN (Wp.seq (Wp.seq (rg [0,1,7,8] [] [(0,rs2 a0),(1,.fn 51 [.el [.str c0]]),(7,vi (List.length a0:Int)),(8,vi 0)] [] (To.thenN (Wp.block ?_)))))))
 obtain ⟨o1,ho1,h⟩:=bind_of h
 refine kw [0,1,7,8] [] [(0,rs2 a0),(1,.fn 51 [.el [.str c0]]),(7,vi (List.length a0:Int)),(8,vi 0)] [] (Wp.loopL (ok_slices_IndexFunc_api_Container_api_Container__view_Busy_1_e_l1 n a0 c0 (List.length a0:Int) n 0 o1 ho1 ?_))
 rcases o1 with o1 | o1
 ·replace h:=sum_l h
  refine To.blockX (To.thenN (Wp.seq (rg [4] [] [(4,vi (-1))] [] (To.thenN (Wp.ret ?_)))))
  cases h
  exact To.done hΓ (by kernel_rfl)
 ·replace h:=sum_r h
  refine To.blockR (To.thenR ?_)
  cases h
  exact To.done hΓ (by kernel_rfl)
def slices_ContainsFunc_api_Container_api_Container__view_Busy_1_e (n:Nat) (a0:List (S_api_Container)) (c0:List UInt8):Option (Bool) :=
 (slices_IndexFunc_api_Container_api_Container__view_Busy_1_e n a0 c0).bind fun r1 =>
 some (decide (r1 ≥ 0))
theorem ok_slices_ContainsFunc_api_Container_api_Container__view_Busy_1_e (n:Nat) (a0:List (S_api_Container)) (c0:List UInt8) (r:Bool) (h:slices_ContainsFunc_api_Container_api_Container__view_Busy_1_e n a0 c0 = some r):CallsX Try.prog 50 [rs2 a0,.fn 51 [.el [.str c0]]] (vb r):=by
 unfold slices_ContainsFunc_api_Container_api_Container__view_Busy_1_e at h
 refine xo Try.f50 rfl fun F0 w0 _=>?_
 refine Wp.seq (rg [0,1] [] [(0,rs2 a0),(1,.fn 51 [.el [.str c0]])] [] (To.thenN (Wp.seq ?_)))
 obtain ⟨r1,hr1,h⟩:=bind_of h
 refine rc [] 2 [4] [] [(4,vb (decide (r1 ≥ 0)))] [] (ok_slices_IndexFunc_api_Container_api_Container__view_Busy_1_e n a0 c0 _ hr1) (To.thenN (Wp.ret ?_))
 cases h
 exact To.done hΓ (by kernel_rfl)
def view_Busy (n:Nat) (a0:S_ref36_Seen) (a1:List UInt8):Option (Bool) :=
 (slices_ContainsFunc_api_Container_api_Container__view_Busy_1_e n a0.f_Boxes a1).bind fun r1 =>
 some r1
theorem ok_view_Busy (n:Nat) (a0:S_ref36_Seen) (a1:List UInt8) (r:Bool) (h:view_Busy n a0 a1 = some r):CallsX Try.prog 25 [.agg (qc4 a0),.str a1] (vb r):=by
 unfold view_Busy at h
 refine xo Try.f25 rfl fun F0 w0 _=>?_
 refine Wp.seq (rg [2,3] [2,3] [(2,.own 2 0),(3,.own 3 0)] [(2,32,qc4 a0),(3,9,[.str a1])] (To.thenN (Wp.seq ?_)))
 obtain ⟨r1,hr1,h⟩:=bind_of h
 refine rc [(2,[3])] 3 [4] [] [(4,vb r1)] [] (ok_slices_ContainsFunc_api_Container_api_Container__view_Busy_1_e n a0.f_Boxes a1 _ hr1) (To.thenN (Wp.ret ?_))
 cases h
 exact To.done hΓ (by kernel_rfl)
def ref02_In_l1 (n:Nat) (v0:List (List UInt8)) (v1:List UInt8):Nat → Int → Option (Sum (Unit) (Bool))
 | 0,_=>none
 | k + 1,v5=>if (decide (v5 < (List.length v0:Int))) = true then (if (decide (0 ≤ v5 ∧ v5 < (List.length v0:Int))) = true then (if (((v0)[Int.toNat v5]?.getD []) == v1) = true then (some (.inr true))
 else (ref02_In_l1 n v0 v1 k (IntKind.wrap .i64 (v5 + 1)))) else none)
 else (some (.inl ()))
theorem ok_ref02_In_l1 (n:Nat) (v0:List (List UInt8)) (v1:List UInt8) {F0:Fz} {w0:Pt Try.prog} {Q:Exit → Act → World → Prop} (k:Nat):∀ (v5:Int) (o:Sum (Unit) (Bool)),ref02_In_l1 n v0 v1 k v5 = some o → (Sum.elim (fun s=>To 18 F0 w0 [] [] (.exit 0) Q) (fun s=>To 18 F0 w0 [(4,vb s)] [] .ret Q)) o → WL Try.prog 18 F0 w0 [(0,ls v0),(1,.str v1),(5,vi v5)] [] (cI (cI (cB (cA (cB (cF Try.f37)))))) Q:=by
 induction k with
 | zero=>intro v5 o h; cases h
 | succ k ih =>
  intro v5 o h hQ
  rw [ref02_In_l1] at h
  refine WL.round (Wp.seq (Wp.seq (rg [0,1,5,9] [] [(0,ls v0),(1,.str v1),(5,vi v5),(9,vb (decide (v5 < (List.length v0:Int))))] [] (To.thenN (cn h (fun h=>?_) (fun h=>?_))))))
  ·refine Wp.skip (To.thenN (Wp.seq (Wp.block (Wp.seq ?_))))
   obtain ⟨hc1,h⟩:=chk_of h
   refine r0 [0,1,5,17] [] [(0,ls v0),(1,.str v1),(5,vi v5),(17,vb (((v0)[Int.toNat v5]?.getD []) == v1))] [] (AllP.cons hc1 AllP.nil) (To.thenN (cn h (fun h=>?_) (fun h=>?_)))
   ·refine Wp.seq (rg [4] [] [(4,vb true)] [] (To.thenN (Wp.ret (To.blockR (To.thenR (To.thenR ?_))))))
    cases h
    exact hQ
   ·refine Wp.skip (To.blockN (To.thenN (rg [0,1,5] [] [(0,ls v0),(1,.str v1),(ex24 v5)] [] (kt [0,1,5] [] [(0,ls v0),(1,.str v1),(ex24 v5)] [] (To.again ?_)))))
    exact ih (IntKind.wrap .i64 (v5 + 1)) _ h hQ
  ·refine Wp.exit (To.thenX (To.thenX (kt [] [] [] [] ?_)))
   cases h
   exact hQ
def ref02_In (n:Nat) (a0:List (List UInt8)) (a1:List UInt8):Option (Bool) :=
 (ref02_In_l1 n a0 a1 n 0).bind fun o1 =>
 (Sum.elim (fun o1=>some false) (fun o1=>some o1)) o1
theorem ok_ref02_In (n:Nat) (a0:List (List UInt8)) (a1:List UInt8) (r:Bool) (h:ref02_In n a0 a1 = some r):CallsX Try.prog 37 [ls a0,.str a1] (vb r):=by
 unfold ref02_In at h
 refine xo Try.f37 rfl fun F0 w0 _=>?_
 refine Wp.seq (rg [0,1] [] [(0,ls a0),(1,.str a1)] [] (To.thenN (Wp.seq (Wp.seq (rg [0,1,5] [] [(0,ls a0),(1,.str a1),(5,vi 0)] [] (To.thenN (Wp.block ?_)))))))
 obtain ⟨o1,ho1,h⟩:=bind_of h
 refine kw [0,1,5] [] [(0,ls a0),(1,.str a1),(5,vi 0)] [] (Wp.loopL (ok_ref02_In_l1 n a0 a1 n 0 o1 ho1 ?_))
 rcases o1 with o1 | o1
 ·replace h:=sum_l h
  refine To.blockX (To.thenN (Wp.seq (rg [4] [] [(4,vb false)] [] (To.thenN (Wp.ret ?_)))))
  cases h
  exact To.done hΓ (by kernel_rfl)
 ·replace h:=sum_r h
  refine To.blockR (To.thenR ?_)
  cases h
  exact To.done hΓ (by kernel_rfl)
def ref36_Busy_l1 (n:Nat) (v1:List UInt8) (b2:S_ref36_Seen):Nat → Int → Option (Sum (Unit) (Bool))
 | 0,_=>none
 | k + 1,v5=>if (decide (v5 < (List.length b2.f_Boxes:Int))) = true then (if (decide (0 ≤ v5 ∧ v5 < (List.length b2.f_Boxes:Int))) = true then ((ref02_In n (((b2.f_Boxes)[Int.toNat v5]?.getD Z_api_Container).f_Spec.f_Nets) v1).bind fun r1 =>
 if r1 = true then (some (.inr true))
 else (ref36_Busy_l1 n v1 b2 k (IntKind.wrap .i64 (v5 + 1)))) else none)
 else (some (.inl ()))
theorem ok_ref36_Busy_l1 (n:Nat) (v1:List UInt8) (b2:S_ref36_Seen) {F0:Fz} {w0:Pt Try.prog} {Q:Exit → Act → World → Prop} (k:Nat):∀ (v5:Int) (o:Sum (Unit) (Bool)),ref36_Busy_l1 n v1 b2 k v5 = some o → (Sum.elim (fun s=>To 22 F0 w0 [] [] (.exit 0) Q) (fun s=>To 22 F0 w0 [(4,vb s)] [] .ret Q)) o → WL Try.prog 22 F0 w0 [(1,.str v1),(2,.own 2 0),(5,vi v5)] [(2,25,qc4 b2)] (cI (cI (cB (cA (cB (cF Try.f26)))))) Q:=by
 induction k with
 | zero=>intro v5 o h; cases h
 | succ k ih =>
  intro v5 o h hQ
  rw [ref36_Busy_l1] at h
  refine WL.round (Wp.seq (Wp.seq (rg [1,2,5,10] [2] [(1,.str v1),(2,.own 2 0),(5,vi v5),(10,vb (decide (v5 < (ex2 b2))))] [(2,25,qc4 b2)] (To.thenN (cn h (fun h=>?_) (fun h=>?_))))))
  ·refine Wp.skip (To.thenN (Wp.seq (Wp.block (Wp.seq ?_))))
   obtain ⟨hc2,h⟩:=chk_of h
   obtain ⟨r1,hr1,h⟩:=bind_of h
   refine rr [] [(8,vb r1)] [] [1,2,5,21] [2] [(1,.str v1),(2,.own 2 0),(5,vi v5),(21,vb r1)] [(2,25,qc4 b2)] [_,_] (AllP.cons hc2 (AllP.cons (c1 (ok_ref02_In n ((ex1 b2 v5).f_Spec.f_Nets) v1 _ hr1)) AllP.nil)) (To.thenN (cn h (fun h=>?_) (fun h=>?_)))
   ·refine Wp.seq (rg [4] [] [(4,vb true)] [] (To.thenN (Wp.ret (To.blockR (To.thenR (To.thenR ?_))))))
    cases h
    exact hQ
   ·refine Wp.skip (To.blockN (To.thenN (rg [1,2,5] [2] [(1,.str v1),(2,.own 2 0),(ex24 v5)] [(2,25,qc4 b2)] (kt [1,2,5] [2] [(1,.str v1),(2,.own 2 0),(ex24 v5)] [(2,25,qc4 b2)] (To.again ?_)))))
    exact ih (IntKind.wrap .i64 (v5 + 1)) _ h hQ
  ·refine Wp.exit (To.thenX (To.thenX (kt [] [] [] [] ?_)))
   cases h
   exact hQ
def ref36_Busy (n:Nat) (a0:S_ref36_Seen) (a1:List UInt8):Option (Bool) :=
 (ref36_Busy_l1 n a1 a0 n 0).bind fun o1 =>
 (Sum.elim (fun o1=>some false) (fun o1=>some o1)) o1
theorem ok_ref36_Busy (n:Nat) (a0:S_ref36_Seen) (a1:List UInt8) (r:Bool) (h:ref36_Busy n a0 a1 = some r):CallsX Try.prog 26 [.agg (qc4 a0),.str a1] (vb r):=by
 unfold ref36_Busy at h
 refine xo Try.f26 rfl fun F0 w0 _=>?_
 refine Wp.seq (rg [1,2] [2] [(1,.str a1),(2,.own 2 0)] [(2,25,qc4 a0)] (To.thenN (Wp.seq (Wp.seq (rg [1,2,5] [2] [(1,.str a1),(2,.own 2 0),(5,vi 0)] [(2,25,qc4 a0)] (To.thenN (Wp.block ?_)))))))
 obtain ⟨o1,ho1,h⟩:=bind_of h
 refine kw [1,2,5] [2] [(1,.str a1),(2,.own 2 0),(5,vi 0)] [(2,25,qc4 a0)] (Wp.loopL (ok_ref36_Busy_l1 n a1 a0 n 0 o1 ho1 ?_))
 rcases o1 with o1 | o1
 ·replace h:=sum_l h
  refine To.blockX (To.thenN (Wp.seq (rg [4] [] [(4,vb false)] [] (To.thenN (Wp.ret ?_)))))
  cases h
  exact To.done hΓ (by kernel_rfl)
 ·replace h:=sum_r h
  refine To.blockR (To.thenR ?_)
  cases h
  exact To.done hΓ (by kernel_rfl)
def view_Find_l1 (n:Nat) (v1:Int) (v8:List (S_api_Container)) (v9:Int):Nat → Int → S_api_Container → Option (Sum (S_api_Container) (Bool × S_api_Container))
 | 0,_,_=>none
 | k + 1,v10,b4=>if (decide (v10 < v9)) = true then (if (decide (0 ≤ v10 ∧ v10 < (List.length v8:Int))) = true then (if ((((v8)[Int.toNat v10]?.getD Z_api_Container).f_Id) == v1) = true then (some (.inr (true,((v8)[Int.toNat v10]?.getD Z_api_Container))))
 else (view_Find_l1 n v1 v8 v9 k (IntKind.wrap .i64 (v10 + 1)) b4)) else none)
 else (some (.inl b4))
theorem ok_view_Find_l1 (n:Nat) (v1:Int) (v8:List (S_api_Container)) (v9:Int) {F0:Fz} {w0:Pt Try.prog} {Q:Exit → Act → World → Prop} (k:Nat):∀ (v10:Int) (b4:S_api_Container) (o:Sum (S_api_Container) (Bool × S_api_Container)),view_Find_l1 n v1 v8 v9 k v10 b4 = some o → (Sum.elim (fun s=>To 21 F0 w0 [(4,.own 4 0)] [(4,49,qc5 s)] (.exit 0) Q) (fun s=>To 21 F0 w0 [(4,.own 4 0),(5,vb s.1)] [(4,49,qc5 s.2)] .ret Q)) o → WL Try.prog 21 F0 w0 [(1,vi v1),(4,.own 4 0),(8,rs2 v8),(9,vi v9),(10,vi v10)] [(4,49,(E_api_Container b4))] (cI (cI (cB (cA (cB (cF Try.f13)))))) Q:=by
 induction k with
 | zero=>intro v10 b4 o h; cases h
 | succ k ih =>
  intro v10 b4 o h hQ
  rw [view_Find_l1] at h
  refine WL.round (Wp.seq (rg [1,4,8,9,10,11] [4] [(1,vi v1),(4,.own 4 0),(8,rs2 v8),(9,vi v9),(10,vi v10),(11,vb (decide (v10 < v9)))] [(4,49,(E_api_Container b4))] (To.thenN (Wp.seq (cn h (fun h=>?_) (fun h=>?_))))))
  ·refine Wp.skip (To.thenN (Wp.seq (Wp.block (Wp.seq ?_))))
   obtain ⟨hc1,h⟩:=chk_of h
   refine r0 [1,4,7,8,9,10] [4,7] [(1,vi v1),(4,.own 4 0),(7,.own 7 0),(8,rs2 v8),(9,vi v9),(10,vi v10)] [(4,49,(E_api_Container b4)),(ex40 v8 v10)] (AllP.cons hc1 AllP.nil) (To.thenN (Wp.seq (rg [1,4,7,8,9,10,17] [4,7] [(1,vi v1),(4,.own 4 0),(7,.own 7 0),(8,rs2 v8),(9,vi v9),(10,vi v10),(17,vb (((ex6 v8 v10).f_Id) == v1))] [(4,49,(E_api_Container b4)),(ex40 v8 v10)] (To.thenN (cn h (fun h=>?_) (fun h=>?_))))))
   ·refine Wp.seq (rg [4,5] [4] [(4,.own 4 0),(5,vb true)] [(4,49,(E_api_Container (ex6 v8 v10)))] (To.thenN (Wp.ret (To.blockR (To.thenR (To.thenR ?_))))))
    cases h
    exact hQ
   ·refine Wp.skip (To.blockN (To.thenN (rg [1,4,8,9,10] [4] [(1,vi v1),(4,.own 4 0),(8,rs2 v8),(9,vi v9),(ex8 v10)] [(4,49,(E_api_Container b4))] (kt [1,4,8,9,10] [4] [(1,vi v1),(4,.own 4 0),(8,rs2 v8),(9,vi v9),(ex8 v10)] [(4,49,(E_api_Container b4))] (To.again ?_)))))
    exact ih (IntKind.wrap .i64 (v10 + 1)) b4 _ h hQ
  ·refine Wp.exit (To.thenX (To.thenX (kt [4] [4] [(4,.own 4 0)] [(4,49,(E_api_Container b4))] ?_)))
   cases h
   exact hQ
def view_Find (n:Nat) (a0:List (S_api_Container)) (a1:Int):Option (S_api_Container × Bool) :=
 (view_Find_l1 n a1 a0 (List.length a0:Int) n 0 (S_api_Container.mk 0 (S_api_Spec.mk [] [] [] 0 [] [] [] (S_api_Check.mk [] 0 0 0) 0 0) 0 0 0 0)).bind fun o1 =>
 (Sum.elim (fun o1=>some ((S_api_Container.mk 0 (S_api_Spec.mk [] [] [] 0 [] [] [] (S_api_Check.mk [] 0 0 0) 0 0) 0 0 0 0),false)) (fun o1=>some (o1.2,o1.1))) o1
theorem ok_view_Find (n:Nat) (a0:List (S_api_Container)) (a1:Int) (r:S_api_Container × Bool) (h:view_Find n a0 a1 = some r):CallsX Try.prog 13 [rs2 a0,vi a1] (.tup [.agg (qc5 r.1),vb r.2]):=by
 unfold view_Find at h
 refine xo Try.f13 rfl fun F0 w0 _=>?_
 refine Wp.seq (rg [0,1,4] [4] [(0,rs2 a0),(1,vi a1),(4,.own 4 0)] [(4,49,[vi 0,.str [],.str [],.str [],vi 0,.str [],.val (.slice none 0 0),.val (.slice none 0 0),.str [],vi 0,vi 0,vi 0,vi 0,vi 0,vi 0,vi 0,vi 0,vi 0])] (To.thenN (Wp.seq (Wp.seq (rg [1,4,8,9,10] [4] [(1,vi a1),(4,.own 4 0),(8,rs2 a0),(ex9 a0),(10,vi 0)] [(4,49,[vi 0,.str [],.str [],.str [],vi 0,.str [],.val (.slice none 0 0),.val (.slice none 0 0),.str [],vi 0,vi 0,vi 0,vi 0,vi 0,vi 0,vi 0,vi 0,vi 0])] (To.thenN (Wp.block ?_)))))))
 obtain ⟨o1,ho1,h⟩:=bind_of h
 refine kw [1,4,8,9,10] [4] [(1,vi a1),(4,.own 4 0),(8,rs2 a0),(ex9 a0),(10,vi 0)] [(4,49,[vi 0,.str [],.str [],.str [],vi 0,.str [],.val (.slice none 0 0),.val (.slice none 0 0),.str [],vi 0,vi 0,vi 0,vi 0,vi 0,vi 0,vi 0,vi 0,vi 0])] (Wp.weak (K':=[(1,vi a1),(4,.own 4 0),(8,rs2 a0),(ex9 a0),(10,vi 0)]) (L':=[(4,49,[vi 0,.str [],.str [],.str [],vi 0,.str [],ls [],ls [],.str [],vi 0,vi 0,vi 0,vi 0,vi 0,vi 0,vi 0,vi 0,vi 0])]) (.cons (.refl _) (.cons (.refl _) (.cons (.refl _) (.cons (.refl _) (.cons (.refl _) .nil))))) (.cons (.cons (.refl _) (.cons (.refl _) (.cons (.refl _) (.cons (.refl _) (.cons (.refl _) (.cons (.refl _) (.cons (.zero _ _) (.cons (.zero _ _) (.cons (.refl _) (.cons (.refl _) (.cons (.refl _) (.cons (.refl _) (.cons (.refl _) (.cons (.refl _) (.cons (.refl _) (.cons (.refl _) (.cons (.refl _) (.cons (.refl _) .nil)))))))))))))))))) .nil) (Wp.loopL (ok_view_Find_l1 n a1 a0 (List.length a0:Int) n 0 (S_api_Container.mk 0 (S_api_Spec.mk [] [] [] 0 [] [] [] zx20 0 0) 0 0 0 0) o1 ho1 ?_)))
 rcases o1 with o1 | o1
 ·replace h:=sum_l h
  refine To.blockX (To.thenN (Wp.seq (rg [4,5] [4] [(4,.own 4 0),(5,vb false)] [(4,49,[vi 0,.str [],.str [],.str [],vi 0,.str [],.val (.slice none 0 0),.val (.slice none 0 0),.str [],vi 0,vi 0,vi 0,vi 0,vi 0,vi 0,vi 0,vi 0,vi 0])] (To.thenN (Wp.ret (To.weak (K':=[(4,.own 4 0),(5,vb false)]) (L':=[(4,49,[vi 0,.str [],.str [],.str [],vi 0,.str [],ls [],ls [],.str [],vi 0,vi 0,vi 0,vi 0,vi 0,vi 0,vi 0,vi 0,vi 0])]) (.cons (.refl _) (.cons (.refl _) .nil)) (.cons (.cons (.refl _) (.cons (.refl _) (.cons (.refl _) (.cons (.refl _) (.cons (.refl _) (.cons (.refl _) (.cons (.zero _ _) (.cons (.zero _ _) (.cons (.refl _) (.cons (.refl _) (.cons (.refl _) (.cons (.refl _) (.cons (.refl _) (.cons (.refl _) (.cons (.refl _) (.cons (.refl _) (.cons (.refl _) (.cons (.refl _) .nil)))))))))))))))))) .nil) ?_))))))
  cases h
  exact To.done hΓ (by kernel_rfl)
 ·replace h:=sum_r h
  refine To.blockR (To.thenR ?_)
  cases h
  exact To.done hΓ (by kernel_rfl)
def view_Count_1__e (a0:S_api_Container) (c0:Int):Bool :=
 (a0.f_State == c0)
theorem ok_view_Count_1__e (a0:S_api_Container) (c0:Int) (r:Bool) (h:view_Count_1__e a0 c0 = r):CallsX Try.prog 53 [.agg (qc5 a0),.el [vi c0]] (vb r):=by
 unfold view_Count_1__e at h
 refine xo Try.f53 rfl fun F0 w0 _=>?_
 refine Wp.seq (rg [1,2] [2] [(1,.el [vi c0]),(2,.own 2 0)] [(2,49,(E_api_Container a0))] (To.thenN (Wp.seq (rg [3] [] [(3,vb (a0.f_State == c0))] [] (To.thenN (Wp.ret ?_))))))
 cases h
 exact To.done hΓ (by kernel_rfl)
def view_those_api_Container__view_Count_1_e_j2 (n:Nat) (v1_0:Int) (v5:List (S_api_Container)) (v8:List (S_api_Container)) (v9:Int) (v10:Int):Option ((List (S_api_Container))) :=
 if (decide (0 ≤ v10 ∧ v10 < (List.length v8:Int))) = true then (lett (view_Count_1__e ((v8)[Int.toNat v10]?.getD Z_api_Container) v1_0) fun r1 =>
 if r1 = true then (if (decide ((List.length v5 + List.length ([((v8)[Int.toNat v10]?.getD Z_api_Container)]:List (S_api_Container))) * (216 + 1) ≤ limit)) = true then (some (v5 ++ ([((v8)[Int.toNat v10]?.getD Z_api_Container)]:List (S_api_Container)))) else none)
 else some v5) else none
theorem ok_view_those_api_Container__view_Count_1_e_j2 (n:Nat) (v1_0:Int) (v5:List (S_api_Container)) (v8:List (S_api_Container)) (v9:Int) (v10:Int) (o:(List (S_api_Container))) (h:view_those_api_Container__view_Count_1_e_j2 n v1_0 v5 v8 v9 v10 = some o) {F0:Fz} {w0:Pt Try.prog} {Q:Exit → Act → World → Prop} (hQ:To 23 F0 w0 [(1,.fn 53 [.el [vi v1_0]]),(5,.row 1005),(8,rs2 v8),(9,vi v9),(10,vi v10)] [(1005,49,[rc7 o])] .normal Q):Wp Try.prog 23 F0 w0 [(1,.fn 53 [.el [vi v1_0]]),(5,.row 1005),(8,rs2 v8),(9,vi v9),(10,vi v10)] [(1005,49,[rc7 v5])] (cA (cB (cB (cI (cI (cB (cA (cB (cB (cF Try.f40)))))))))) Q:=by
 unfold view_those_api_Container__view_Count_1_e_j2 at h
 refine Wp.block (Wp.seq ?_)
 obtain ⟨hc3,h⟩:=chk_of h
 refine r0 [1,5,7,8,9,10] [7,1005] [(1,.fn 53 [.el [vi v1_0]]),(5,.row 1005),(7,.own 7 0),(8,rs2 v8),(9,vi v9),(10,vi v10)] [(ex40 v8 v10),(1005,49,[rc7 v5])] (AllP.cons hc3 AllP.nil) (To.thenN (Wp.seq ?_))
 obtain ⟨r1,hr1,h⟩:=lett_of h
 refine rc [] 2 [1,5,7,8,9,10,16] [7,1005] [(1,.fn 53 [.el [vi v1_0]]),(5,.row 1005),(7,.own 7 0),(8,rs2 v8),(9,vi v9),(10,vi v10),(16,vb r1)] [(ex40 v8 v10),(1005,49,[rc7 v5])] (ok_view_Count_1__e (ex6 v8 v10) v1_0 _ hr1) (To.thenN (cn h (fun h=>?_) (fun h=>?_)))
 ·obtain ⟨hc2,h⟩:=chk_of h
  refine rr [] [(2,rs2 ([(ex6 v8 v10)])),(3,rs2 (v5 ++ (ex32 v8 v10)))] [] [1,5,8,9,10] [20] [(1,.fn 53 [.el [vi v1_0]]),(5,.row 20),(8,rs2 v8),(9,vi v9),(10,vi v10)] [(20,49,[rc7 (v5 ++ (ex32 v8 v10))])] [(MkOb 18 [vi ((ex6 v8 v10).f_Id),.str ((ex6 v8 v10).f_Spec.f_Name),.str (ex38 v8 v10),.str (ex37 v8 v10),vi ((ex6 v8 v10).f_Spec.f_Number),.str ((ex6 v8 v10).f_Spec.f_Hash),ls ((ex6 v8 v10).f_Spec.f_Nets),ls ((ex6 v8 v10).f_Spec.f_Vols),.str (ex36 v8 v10),vi (ex34 v8 v10),vi (ex35 v8 v10),vi (ex33 v8 v10),vi (ex39 v8 v10),vi ((ex6 v8 v10).f_Spec.f_Tries),vi ((ex6 v8 v10).f_State),vi ((ex6 v8 v10).f_Code),vi ((ex6 v8 v10).f_Health),vi ((ex6 v8 v10).f_Runs)] 1 (rs2 ([(ex6 v8 v10)])) ∧ GoodR (rs2 ([(ex6 v8 v10)]))),_,(ex45 v5 v8 v10)] (AllP.cons (mkOb (by kernel_rfl) rfl (by kernel_rfl) (good_E_api_Container _)) (AllP.cons hc2 (AllP.cons (appOb rfl rfl (good_E_api_Container _)) AllP.nil))) (To.blockN (nt [1,5,8,9,10] [20] [(20,1005)] [1,5,8,9,10] [1005] [(1,.fn 53 [.el [vi v1_0]]),(5,.row 1005),(8,rs2 v8),(9,vi v9),(10,vi v10)] [(1005,49,[rc7 (v5 ++ (ex32 v8 v10))])] ?_))
  cases h
  exact hQ
 ·refine Wp.skip (To.blockN (kt [1,5,8,9,10] [1005] [(1,.fn 53 [.el [vi v1_0]]),(5,.row 1005),(8,rs2 v8),(9,vi v9),(10,vi v10)] [(1005,49,[rc7 v5])] ?_))
  cases h
  exact hQ
def view_those_api_Container__view_Count_1_e_l1 (n:Nat) (v1_0:Int) (v8:List (S_api_Container)) (v9:Int):Nat → (List (S_api_Container)) → Int → Option ((List (S_api_Container)))
 | 0,_,_=>none
 | k + 1,v5,v10=>if (decide (v10 < v9)) = true then ((view_those_api_Container__view_Count_1_e_j2 n v1_0 v5 v8 v9 v10).bind fun o1 =>
 view_those_api_Container__view_Count_1_e_l1 n v1_0 v8 v9 k o1 (IntKind.wrap .i64 (v10 + 1)))
 else some v5
theorem ok_view_those_api_Container__view_Count_1_e_l1 (n:Nat) (v1_0:Int) (v8:List (S_api_Container)) (v9:Int) {F0:Fz} {w0:Pt Try.prog} {Q:Exit → Act → World → Prop} (k:Nat):∀ (v5:List (S_api_Container)) (v10:Int) (o:(List (S_api_Container))),view_those_api_Container__view_Count_1_e_l1 n v1_0 v8 v9 k v5 v10 = some o → To 23 F0 w0 [(5,.row 1005)] [(1005,49,[rc7 o])] (.exit 0) Q → WL Try.prog 23 F0 w0 [(1,.fn 53 [.el [vi v1_0]]),(5,.row 1005),(8,rs2 v8),(9,vi v9),(10,vi v10)] [(1005,49,[rc7 v5])] (cI (cI (cB (cA (cB (cB (cF Try.f40))))))) Q:=by
 induction k with
 | zero=>intro v5 v10 o h; cases h
 | succ k ih =>
  intro v5 v10 o h hQ
  rw [view_those_api_Container__view_Count_1_e_l1] at h
  refine WL.round (Wp.seq (rg [1,5,8,9,10,11] [1005] [(1,.fn 53 [.el [vi v1_0]]),(5,.row 1005),(8,rs2 v8),(9,vi v9),(10,vi v10),(11,vb (decide (v10 < v9)))] [(1005,49,[rc7 v5])] (To.thenN (Wp.seq (cn h (fun h=>?_) (fun h=>?_))))))
  ·refine Wp.skip (To.thenN (Wp.seq ?_))
   obtain ⟨o1,ho1,h⟩:=bind_of h
   refine kw [1,5,8,9,10] [1005] [(1,.fn 53 [.el [vi v1_0]]),(5,.row 1005),(8,rs2 v8),(9,vi v9),(10,vi v10)] [(1005,49,[rc7 v5])] (ok_view_those_api_Container__view_Count_1_e_j2 n v1_0 v5 v8 v9 v10 o1 ho1 (To.thenN (rg [1,5,8,9,10] [1005] [(1,.fn 53 [.el [vi v1_0]]),(5,.row 1005),(8,rs2 v8),(9,vi v9),(ex8 v10)] [(1005,49,[rc7 o1])] (kt [1,5,8,9,10] [1005] [(1,.fn 53 [.el [vi v1_0]]),(5,.row 1005),(8,rs2 v8),(9,vi v9),(ex8 v10)] [(1005,49,[rc7 o1])] (To.again ?_)))))
   exact ih o1 (IntKind.wrap .i64 (v10 + 1)) _ h hQ
  ·refine Wp.exit (To.thenX (To.thenX (kt [5] [1005] [(5,.row 1005)] [(1005,49,[rc7 v5])] ?_)))
   cases h
   exact hQ
def view_those_api_Container__view_Count_1_e (n:Nat) (a0:List (S_api_Container)) (c0:Int):Option ((List (S_api_Container))) :=
 (view_those_api_Container__view_Count_1_e_l1 n c0 a0 (List.length a0:Int) n ([]:List (S_api_Container)) 0).bind fun o1 =>
 some o1
theorem ok_view_those_api_Container__view_Count_1_e (n:Nat) (a0:List (S_api_Container)) (c0:Int) (r:(List (S_api_Container))) (h:view_those_api_Container__view_Count_1_e n a0 c0 = some r):CallsX Try.prog 40 [rs2 a0,.fn 53 [.el [vi c0]]] (rs2 r):=by
 unfold view_those_api_Container__view_Count_1_e at h
 refine xo Try.f40 rfl fun F0 w0 _=>?_
 refine Wp.seq (rg [0,1] [] [(0,rs2 a0),(1,.fn 53 [.el [vi c0]])] [] (To.thenN (Wp.seq (rg [0,1,5] [] [(0,rs2 a0),(1,.fn 53 [.el [vi c0]]),(5,.val (.slice none 0 0))] [] (To.thenN (Wp.seq (Wp.seq (rg [1,5,8,9,10] [] [(1,.fn 53 [.el [vi c0]]),(5,.val (.slice none 0 0)),(8,rs2 a0),(ex9 a0),(10,vi 0)] [] (To.thenN (Wp.block ?_))))))))))
 obtain ⟨o1,ho1,h⟩:=bind_of h
 refine kw [1,5,8,9,10] [] [(1,.fn 53 [.el [vi c0]]),(5,.val (.slice none 0 0)),(8,rs2 a0),(ex9 a0),(10,vi 0)] [] (Wp.pre (St.vacant (t:=5) (k:=1005) (e:=49) (K':=[(1,.fn 53 [.el [vi c0]]),(5,.row 1005),(8,rs2 a0),(ex9 a0),(10,vi 0)]) (good_E_api_Container _) (by decide) (by kernel_rfl) (by kernel_rfl)) (kw [1,5,8,9,10] [1005] [(1,.fn 53 [.el [vi c0]]),(5,.row 1005),(8,rs2 a0),(ex9 a0),(10,vi 0)] [(1005,49,[rc7 []])] (Wp.loopL (ok_view_those_api_Container__view_Count_1_e_l1 n c0 a0 (List.length a0:Int) n ([]:List (S_api_Container)) 0 o1 ho1 (To.blockX (To.thenN (Wp.seq (rg [4] [1005] [(4,.row 1005)] [(1005,49,[rc7 o1])] (To.thenN (Wp.ret ?_))))))))))
 refine To.pre (St.settle (ks:=[1005]) (kk:=[4]) (kl:=[1005]) (K':=[(4,.row 1005)]) (L':=[(1005,49,[rc9 o1])]) (by kernel_rfl)) (To.pre (St.sealK [4] (K':=[(4,rs2 o1)]) (by kernel_rfl)) ?_)
 cases h
 exact To.done hΓ (by kernel_rfl)
def view_Count (n:Nat) (a0:List (S_api_Container)) (a1:Int):Option (Int) :=
 (view_those_api_Container__view_Count_1_e n a0 a1).bind fun r1 =>
 some (List.length r1:Int)
theorem ok_view_Count (n:Nat) (a0:List (S_api_Container)) (a1:Int) (r:Int) (h:view_Count n a0 a1 = some r):CallsX Try.prog 27 [rs2 a0,vi a1] (vi r):=by
 unfold view_Count at h
 refine xo Try.f27 rfl fun F0 w0 _=>?_
 refine Wp.seq (rg [0,3] [3] [(0,rs2 a0),(3,.own 3 0)] [(3,3,[vi a1])] (To.thenN (Wp.seq ?_)))
 obtain ⟨r1,hr1,h⟩:=bind_of h
 refine rc [(1,[3])] 2 [4] [] [(4,vi (List.length r1:Int))] [] (ok_view_those_api_Container__view_Count_1_e n a0 a1 _ hr1) (To.thenN (Wp.ret ?_))
 cases h
 exact To.done hΓ (by kernel_rfl)
def law36_ViewTells_j3 (n:Nat) (v4:Int) (v12:Int) (v13:Int) (v14:Int) (v122:Bool) (b5:S_ref36_Seen):Option (Int) :=
 if v122 = true then (some (IntKind.wrap .i64 (v12 + 1)))
 else some v12
theorem ok_law36_ViewTells_j3 (n:Nat) (v4:Int) (v12:Int) (v13:Int) (v14:Int) (v122:Bool) (b5:S_ref36_Seen) (o:Int) (h:law36_ViewTells_j3 n v4 v12 v13 v14 v122 b5 = some o) {F0:Fz} {w0:Pt Try.prog} {Q:Exit → Act → World → Prop} (hQ:To 169 F0 w0 [(4,vi v4),(5,.own 5 0),(12,vi o),(13,vi v13),(14,vi v14)] [(5,25,qc4 b5)] .normal Q):Wp Try.prog 169 F0 w0 [(4,vi v4),(5,.own 5 0),(12,vi v12),(13,vi v13),(14,vi v14),(122,vb v122)] [(5,25,qc4 b5)] (cB (cA (cI (cA (cB (cI (cI (cB (cA (cB (cB (cB (cB (cB (cB (cF Try.f4)))))))))))))))) Q:=by
 unfold law36_ViewTells_j3 at h
 refine cn h (fun h=>?_) (fun h=>?_)
 ·refine rg [4,5,12,13,14] [5] [(4,vi v4),(5,.own 5 0),(ex30 v12),(13,vi v13),(14,vi v14)] [(5,25,qc4 b5)] (kt [4,5,12,13,14] [5] [(4,vi v4),(5,.own 5 0),(ex30 v12),(13,vi v13),(14,vi v14)] [(5,25,qc4 b5)] ?_)
  cases h
  exact hQ
 ·refine Wp.skip (kt [4,5,12,13,14] [5] [(4,vi v4),(5,.own 5 0),(12,vi v12),(13,vi v13),(14,vi v14)] [(5,25,qc4 b5)] ?_)
  cases h
  exact hQ
def law36_ViewTells_j2 (n:Nat) (v4:Int) (v12:Int) (v13:Int) (v14:Int) (b5:S_ref36_Seen):Option (Int × Int) :=
 if (decide (0 ≤ v14 ∧ v14 < (List.length b5.f_Boxes:Int))) = true then ((law36_ViewTells_j3 n v4 v12 v13 v14 ((((b5.f_Boxes)[Int.toNat v14]?.getD Z_api_Container).f_State) == v4) b5).bind fun o25 =>
 if (decide (0 ≤ v14 ∧ v14 < (List.length b5.f_Boxes:Int))) = true then (if ((((b5.f_Boxes)[Int.toNat v14]?.getD Z_api_Container).f_Id) == v4) = true then (some (o25,v14))
 else (some (o25,v13))) else none) else none
theorem ok_law36_ViewTells_j2 (n:Nat) (v4:Int) (v12:Int) (v13:Int) (v14:Int) (b5:S_ref36_Seen) (o:Int × Int) (h:law36_ViewTells_j2 n v4 v12 v13 v14 b5 = some o) {F0:Fz} {w0:Pt Try.prog} {Q:Exit → Act → World → Prop} (hQ:To 169 F0 w0 [(4,vi v4),(5,.own 5 0),(12,vi o.1),(13,vi o.2),(14,vi v14)] [(5,25,qc4 b5)] .normal Q):Wp Try.prog 169 F0 w0 [(4,vi v4),(5,.own 5 0),(12,vi v12),(13,vi v13),(14,vi v14)] [(5,25,qc4 b5)] (cA (cB (cI (cI (cB (cA (cB (cB (cB (cB (cB (cB (cF Try.f4))))))))))))) Q:=by
 unfold law36_ViewTells_j2 at h
 refine Wp.block (Wp.seq (Wp.seq ?_))
 obtain ⟨hc27,h⟩:=chk_of h
 refine r0 [4,5,12,13,14,122] [5] [(4,vi v4),(5,.own 5 0),(12,vi v12),(13,vi v13),(14,vi v14),(122,vb (((ex1 b5 v14).f_State) == v4))] [(5,25,qc4 b5)] (AllP.cons hc27 AllP.nil) (To.thenN ?_)
 obtain ⟨o25,ho25,h⟩:=bind_of h
 refine kw [4,5,12,13,14,122] [5] [(4,vi v4),(5,.own 5 0),(12,vi v12),(13,vi v13),(14,vi v14),(122,vb (((ex1 b5 v14).f_State) == v4))] [(5,25,qc4 b5)] (ok_law36_ViewTells_j3 n v4 v12 v13 v14 (((ex1 b5 v14).f_State) == v4) b5 o25 ho25 (To.thenN (Wp.seq ?_)))
 obtain ⟨hc26,h⟩:=chk_of h
 refine r0 [4,5,12,13,14,132] [5] [(4,vi v4),(5,.own 5 0),(12,vi o25),(13,vi v13),(14,vi v14),(132,vb (((ex1 b5 v14).f_Id) == v4))] [(5,25,qc4 b5)] (AllP.cons hc26 AllP.nil) (To.thenN (cn h (fun h=>?_) (fun h=>?_)))
 ·refine rg [4,5,12,13,14] [5] [(4,vi v4),(5,.own 5 0),(12,vi o25),(13,vi v14),(14,vi v14)] [(5,25,qc4 b5)] (To.blockN ?_)
  cases h
  exact hQ
 ·refine Wp.skip (To.blockN (kt [4,5,12,13,14] [5] [(4,vi v4),(5,.own 5 0),(12,vi o25),(13,vi v13),(14,vi v14)] [(5,25,qc4 b5)] ?_))
  cases h
  exact hQ
def law36_ViewTells_l1 (n:Nat) (v4:Int) (b5:S_ref36_Seen):Nat → Int → Int → Int → Option (Int × Int)
 | 0,_,_,_=>none
 | k + 1,v12,v13,v14=>if (decide (v14 ≥ 0)) = true then ((law36_ViewTells_j2 n v4 v12 v13 v14 b5).bind fun o25 =>
 law36_ViewTells_l1 n v4 b5 k o25.1 o25.2 (IntKind.wrap .i64 (v14 - 1)))
 else (some (v12,v13))
theorem ok_law36_ViewTells_l1 (n:Nat) (v4:Int) (b5:S_ref36_Seen) {F0:Fz} {w0:Pt Try.prog} {Q:Exit → Act → World → Prop} (k:Nat):∀ (v12:Int) (v13:Int) (v14:Int) (o:Int × Int),law36_ViewTells_l1 n v4 b5 k v12 v13 v14 = some o → To 169 F0 w0 [(4,vi v4),(5,.own 5 0),(12,vi o.1),(13,vi o.2)] [(5,25,qc4 b5)] (.exit 0) Q → WL Try.prog 169 F0 w0 [(4,vi v4),(5,.own 5 0),(12,vi v12),(13,vi v13),(14,vi v14)] [(5,25,qc4 b5)] (cI (cI (cB (cA (cB (cB (cB (cB (cB (cB (cF Try.f4))))))))))) Q:=by
 induction k with
 | zero=>intro v12 v13 v14 o h; cases h
 | succ k ih =>
  intro v12 v13 v14 o h hQ
  rw [law36_ViewTells_l1] at h
  refine WL.round (Wp.seq (Wp.seq (rg [4,5,12,13,14,112] [5] [(4,vi v4),(5,.own 5 0),(12,vi v12),(13,vi v13),(14,vi v14),(112,vb (decide (v14 ≥ 0)))] [(5,25,qc4 b5)] (To.thenN (cn h (fun h=>?_) (fun h=>?_))))))
  ·refine Wp.skip (To.thenN (Wp.seq ?_))
   obtain ⟨o25,ho25,h⟩:=bind_of h
   refine kw [4,5,12,13,14] [5] [(4,vi v4),(5,.own 5 0),(12,vi v12),(13,vi v13),(14,vi v14)] [(5,25,qc4 b5)] (ok_law36_ViewTells_j2 n v4 v12 v13 v14 b5 o25 ho25 (To.thenN (rg [4,5,12,13,14] [5] [(4,vi v4),(5,.own 5 0),(12,vi o25.1),(13,vi o25.2),(14,vi (IntKind.wrap .i64 (v14 - 1)))] [(5,25,qc4 b5)] (kt [4,5,12,13,14] [5] [(4,vi v4),(5,.own 5 0),(12,vi o25.1),(13,vi o25.2),(14,vi (IntKind.wrap .i64 (v14 - 1)))] [(5,25,qc4 b5)] (To.again ?_)))))
   exact ih o25.1 o25.2 (IntKind.wrap .i64 (v14 - 1)) _ h hQ
  ·refine Wp.exit (To.thenX (To.thenX (kt [4,5,12,13] [5] [(4,vi v4),(5,.own 5 0),(12,vi v12),(13,vi v13)] [(5,25,qc4 b5)] ?_)))
   cases h
   exact hQ
def law36_ViewTells (n:Nat) (a0:S_ref36_Seen) (a1:S_api_Project) (a2:List UInt8) (a3:List UInt8) (a4:Int):Option (Bool) :=
 (law36_Few n a0).bind fun r1 =>
 if (bif (!r1) then true else (decide ((List.length a1.f_Services:Int) > 20))) = true then ((law36_awake n).bind fun r2 =>
 some r2)
 else ((view_Mine n a0 a2).bind fun r3 =>
 (ref36_Mine n a0 a2).bind fun r4 =>
 (law33_SameBoxes n r3 r4).bind fun r5 =>
 ((if ((!r5) == false) = true then view_Service n a0 a2 a3 else some [])).bind fun r6 =>
 ((if ((!r5) == false) = true then ref36_Service n a0 a2 a3 else some [])).bind fun r7 =>
 ((if ((!r5) == false) = true then law33_SameBoxes n r6 r7 else some false)).bind fun r8 =>
 ((if ((bif (!r5) then true else (!r8)) == false) = true then view_Orphans n a0 a1 else some [])).bind fun r9 =>
 ((if ((bif (!r5) then true else (!r8)) == false) = true then ref36_Orphans n a0 a1 else some [])).bind fun r10 =>
 ((if ((bif (!r5) then true else (!r8)) == false) = true then law33_SameBoxes n r9 r10 else some false)).bind fun r11 =>
 if (bif (bif (!r5) then true else (!r8)) then true else (!r11)) = true then some false
 else ((view_Nets n a0 a2).bind fun r12 =>
 (ref36_Names n a0.f_Nets a2).bind fun r13 =>
 (ref02_Same n r12 r13).bind fun r14 =>
 ((if ((!r14) == false) = true then view_Vols n a0 a2 else some [])).bind fun r15 =>
 ((if ((!r14) == false) = true then ref36_Names n a0.f_Vols a2 else some [])).bind fun r16 =>
 ((if ((!r14) == false) = true then ref02_Same n r15 r16 else some false)).bind fun r17 =>
 ((if ((bif (!r14) then true else (!r17)) == false) = true then view_Net n a0 a3 else some false)).bind fun r18 =>
 ((if ((bif (!r14) then true else (!r17)) == false) = true then ref36_Named n a0.f_Nets a3 else some false)).bind fun r19 =>
 ((if ((bif (bif (!r14) then true else (!r17)) then true else (!(r18 == r19))) == false) = true then view_Vol n a0 a3 else some false)).bind fun r20 =>
 ((if ((bif (bif (!r14) then true else (!r17)) then true else (!(r18 == r19))) == false) = true then ref36_Named n a0.f_Vols a3 else some false)).bind fun r21 =>
 ((if ((bif (bif (bif (!r14) then true else (!r17)) then true else (!(r18 == r19))) then true else (!(r20 == r21))) == false) = true then view_Busy n a0 a3 else some false)).bind fun r22 =>
 ((if ((bif (bif (bif (!r14) then true else (!r17)) then true else (!(r18 == r19))) then true else (!(r20 == r21))) == false) = true then ref36_Busy n a0 a3 else some false)).bind fun r23 =>
 lett ((bif (bif (bif (bif (!r14) then true else (!r17)) then true else (!(r18 == r19))) then true else (!(r20 == r21))) then true else (!(r22 == r23))):Bool) fun x24 =>
 if x24 = true then some false
 else ((law36_ViewTells_l1 n a4 a0 n 0 (-1) (IntKind.wrap .i64 ((List.length a0.f_Boxes:Int) - 1))).bind fun o25 =>
 (view_Find n a0.f_Boxes a4).bind fun r26 =>
 (view_Count n a0.f_Boxes a4).bind fun r27 =>
 if (bif (r27 != o25.1) then true else (!(r26.2 == (decide (o25.2 ≥ 0))))) = true then some false
 else (if ((!((!r26.2) == false) || decide (0 ≤ (IntKind.wrap .i64 (o25.2 + 1)) ∧ (IntKind.wrap .i64 (o25.2 + 1)) ≤ (List.length a0.f_Boxes:Int)))) = true then (if ((!((!r26.2) == false) || decide (0 ≤ o25.2 ∧ o25.2 ≤ (IntKind.wrap .i64 (o25.2 + 1))))) = true then (((if ((!r26.2) == false) = true then law33_SameBoxes n [r26.1] (List.take (Int.toNat (IntKind.wrap .i64 (o25.2 + 1)) - Int.toNat o25.2) (List.drop (Int.toNat o25.2) a0.f_Boxes)) else some false)).bind fun r28 =>
 ((if ((bif (!r26.2) then true else r28) == true) = true then law36_awake n else some false)).bind fun r29 =>
 some (bif (bif (!r26.2) then true else r28) then r29 else false)) else none) else none))))
end Go.Proofs.Ytaecmkldkljioaa.M
